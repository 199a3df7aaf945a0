/- The walker's rules: results in a cell, parts of slices. No Go in it. -/
import Derived.Test.YtoejhelhgfipkaaDoorEvs
namespace Go.Proofs.YtoejhelhgfipkaaDoor
set_option linter.unusedVariables false
set_option linter.unusedSimpArgs false
open Go.RowKit Go.ChangeMaps

section
variable {P : Program} {w : World} {F L : List Piece} {te sz n c : Nat} {xs : List Value} {v : Value} {a : Option Addr} {σ : Fr} {op : Oper} {K : Value → World → Prop}

/-- The end of a function whose result stands in a block. -/
theorem retC {fn : Func} {R : Ending → World → Prop} {t ty b te : Nat} {cs : Array Value} (H : SL w L) (i : Nat) (hi : L[i]? = some (row b cs te)) (hr : fn.results = #[.cell t ty]) (hv : σ t = .pointer (some ⟨b, 0, none⟩))
    (hd : (match P.underlying ty with | some (.struct _) => true | some (.array _ _) => true | _ => false) = true) (hs : (P.info? ty).map (·.size) = some cs.size) (h : R (.returned (.agg cs)) w) : RetOf P fn R σ w := by
  cases hu : P.underlying ty with
  | none => rw [hu] at hd; cases hd
  | some d =>
    rw [hu] at hd
    cases d <;> first | cases hd; done | exact ⟨⟨_, fun a ha => results_cell_row hr a.tmps w b te cs (0, 0) _ (by rw [ha, hv]) (H.at i hi) hu rfl hs, h⟩⟩

theorem run_head {t : Nat} (x h : Operand) (hop : op.op = .slice t x none (some h) none) (ht : P.underlying t = some (.slice te)) (hsz : (P.info? te).map (·.size) = some sz) {i : Nat} (hi : i ≤ c)
    (hx : ev σ x = .slice a n c) (hh : ev σ h = .int .i64 (i : Int)) (w : World) : (execOp (ev σ) op).run P w = .ok (.value (.slice a i c)) w := by
  obtain ⟨inf, hinf, hs⟩ := Option.map_eq_some_iff.1 hsz
  have hle : (i : Int) ≤ (c : Int) := by omega
  have ha : (if c = 0 then a else a.map (·.add (0 * inf.size))) = a := by
    split
    · rfl
    · cases a with
      | none => rfl
      | some a =>
        obtain ⟨b, o, s⟩ := a
        simp [Addr.add]
  rw [Nat.zero_mul] at ha
  simp [execOp, hop, hx, hh, Instr.sliceAt, Instr.slice, run_underlying ht, Instr.sliceBounds, Instr.sliceBound, asIntOf, hle, sizeOf, typeInfo, hinf, Result.andThen, hi, ha]

/-- v[:i]. -/
theorem Mn.head (x h : Operand) (t : Nat) (hop : op.op = .slice t x none (some h) none) (ht : P.underlying t = some (.slice te)) (hsz : (P.info? te).map (·.size) = some sz) (i : Nat) (hi : i ≤ c)
    (hx : ev σ x = .slice a n c) (hh : ev σ h = .int .i64 (i : Int)) (k : K (.slice a i c) w) : Mn P σ op w K :=
  Mn.by (run_head x h hop ht hsz hi hx hh w) k

/-- v[1:] of a slice of one's own, to be read. -/
theorem Mn.tailS (H : SL w (Slc te sz v (n + 1) xs :: F)) (x l : Operand) (t : Nat) (hop : op.op = .slice t x (some l) none none) (ht : P.underlying t = some (.slice te)) (hsz : (P.info? te).map (·.size) = some sz)
    (hx : ev σ x = v) (hl : ev σ l = .int .i64 1) (k : ∀ a c, (∀ (w' : World) (L : List Piece) (i : Nat), SL w' L → L[i]? = some (Slc te sz v (n + 1) xs) → Rd w' sz a n (xs.drop sz)) → K (.slice a n c) w) : Mn P σ op w K := by
  obtain ⟨S, _, h, _⟩ := H.on
  obtain ⟨hlen, h2⟩ := h
  rcases h2 with ⟨rfl, h0⟩ | ⟨g, cap, cur, rfl, _, hg, hnc, hcm, hcs, htake⟩
  · omega
  · refine Mn.by (run_tail (lo := 0) (n := n + 1) (c := cap) x l hop ht hsz (by omega) hnc hx hl w) ?_
    show K (.slice (if cap = 1 then _ else _) (n + 1 - 1) (cap - 1)) w
    rw [Nat.add_sub_cancel]
    refine k _ _ (fun w' L i H' hi => ?_)
    obtain ⟨T, _, hT, _⟩ := SLs.at i H' hi
    refine ⟨by rw [List.length_drop, hlen, Nat.succ_mul]; omega, by omega, fun hn => ?_⟩
    have hc1 : cap ≠ 1 := by omega
    rw [if_neg hc1]
    refine ⟨g, 0 + sz, by simp only [Option.map_some, Addr_add], fun j u hu => ?_⟩
    rw [List.getElem?_drop] at hu
    have := own_cell hT hu
    rw [Nat.zero_add]
    exact this

/-- append, the new value in a slice's form. -/
theorem SL.appF (H : SL w (Slc te sz v n xs :: F)) (s x : Operand) (t : TypeId) (z : Value) (bytes : Nat)
    (hop : op.op = .call { callee := .builtin .append, args := #[s, x], argTypes := #[t, t] })
    (ht : P.underlying t = some (.slice te)) (hinfo : (P.info? te).map (fun i => (i.zero, i.size, i.bytes)) = some (some z, sz, bytes)) (hz : z.cells.size = sz) (hs0 : 0 < sz)
    (hs : ev σ s = v) (A : Option Addr) (m cap : Nat) (news : List Value) (hx : ev σ x = .slice A m cap) (hr : Rd w sz A m news) (h1 : news.all Value.oneCell' = true) (hn : n + m < 1000000000) (hl : bytes ≤ 1000)
    (k : ∀ a c w', SL w' (Slc te sz (.slice a (n + m) c) (n + m) (xs ++ news) :: F) → K (.slice a (n + m) c) w') : Mn P σ op w K :=
  SL.app H s x t z bytes hop ht hinfo hz hs0 hs A m cap news hx hr h1 hn hl (fun v' w' H' => by
    obtain ⟨S, _, h, _⟩ := H'.on
    obtain ⟨a, c, rfl⟩ := own_form h
    exact k a c w' H')

/-- append to nil. -/
theorem SL.appNil (H : SL w F) (s x : Operand) (t : TypeId) (z : Value) (bytes : Nat)
    (hop : op.op = .call { callee := .builtin .append, args := #[s, x], argTypes := #[t, t] })
    (ht : P.underlying t = some (.slice te)) (hinfo : (P.info? te).map (fun i => (i.zero, i.size, i.bytes)) = some (some z, sz, bytes)) (hz : z.cells.size = sz) (hs0 : 0 < sz)
    (hs : ev σ s = .slice none 0 0) (A : Option Addr) (m cap : Nat) (news : List Value) (hx : ev σ x = .slice A m cap) (hr : Rd w sz A m news) (h1 : news.all Value.oneCell' = true) (hn : m < 1000000000) (hl : bytes ≤ 1000)
    (k : ∀ a c w', SL w' (Slc te sz (.slice a m c) m news :: F) → K (.slice a m c) w') : Mn P σ op w K :=
  SL.appF (SL.slcNil te sz H) s x t z bytes hop ht hinfo hz hs0 hs A m cap news hx hr h1 (by omega) hl (fun a c w' H' => by
    rw [Nat.zero_add, List.nil_append] at H'
    rw [Nat.zero_add]
    exact k a c w' H')

theorem SL.slcForm (h : SL w (Slc te sz v n xs :: F)) : ∃ a c, v = .slice a n c := by
  obtain ⟨S, _, h, _⟩ := h.on
  exact own_form h
theorem SL.slcAddr (h : SL w (Slc te sz (.slice a n c) n xs :: F)) (hn : 0 < n) : ∃ g, a = some ⟨g, 0, none⟩ := by
  obtain ⟨S, _, h, _⟩ := h.on
  exact own_some h hn
end
theorem ints_snoc (a : List Int) (v : Int) : ints a ++ [.int .i64 v] = ints (a ++ [v]) := by simp [ints]
theorem ints_all (l : List Int) : (ints l).all Value.oneCell' = true := by
  rw [List.all_eq_true]
  intro v hv
  unfold ints at hv
  obtain ⟨i, _, rfl⟩ := List.mem_map.1 hv
  rfl
theorem ints_drop (l : List Int) (k : Nat) : (ints l).drop k = ints (l.drop k) := by simp [ints]

end Go.Proofs.YtoejhelhgfipkaaDoor
