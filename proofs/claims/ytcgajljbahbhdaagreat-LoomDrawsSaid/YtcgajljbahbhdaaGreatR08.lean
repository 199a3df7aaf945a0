/- Texts of the proof, several in one file: Names, SxR, Loom1, ForkE, ForkF, ForkG, LoomX0. -/
import Derived.Test.YtcgajljbahbhdaaGreatR07
import Derived.Test.YtcgajljbahbhdaaGreatR03
namespace Go.Proofs.YtcgajljbahbhdaaGreat
set_option linter.unusedVariables false
set_option linter.unusedSimpArgs false
open Go.RowKit
def pickN (name : List Int) (L : List Piece) : List Piece := name.map (fun n => if 0 ≤ n then nth L n.toNat else emp)
def leftN : List Int → List Piece → List Piece
 | [], L => L
 | n :: ns, L => leftN ns (if 0 ≤ n then L.set n.toNat emp else L)
def putN {α : Type} : List Int → List α → List α → List α
 | n :: ns, y :: ys, L => putN ns ys (if 0 ≤ n then L.set n.toNat y else L)
 | _, _, L => L
theorem putN_back : ∀ (name : List Int) (ys M : List PipeM), putN name ys M = backN name ys M
 | [], _, _ => by unfold putN backN; rfl
 | n :: ns, [], M => by unfold putN backN; rfl
 | n :: ns, y :: ys, M => by
  unfold putN backN
  exact putN_back ns ys _
/-- The names are of different channels, which are there. -/
structure NamesOk (name : List Int) (k : Nat) : Prop where
 lt : ∀ n ∈ name, n < (k : Int)
 ne : name.Pairwise (fun a b => 0 ≤ a → a ≠ b)
theorem NamesOk.tail {n : Int} {ns : List Int} {k : Nat} (h : NamesOk (n :: ns) k) : NamesOk ns k := ⟨fun m hm => h.lt m (List.mem_cons_of_mem _ hm), (List.pairwise_cons.1 h.ne).2⟩
theorem NamesOk.head {n : Int} {ns : List Int} {k : Nat} (h : NamesOk (n :: ns) k) (h0 : 0 ≤ n) : ∀ m ∈ ns, n ≠ m := fun m hm => (List.pairwise_cons.1 h.ne).1 m hm h0
theorem nth_get : ∀ (L : List Piece) (i : Nat), i < L.length → L[i]? = some (nth L i)
 | A :: L, 0, _ => rfl
 | A :: L, i + 1, h => nth_get L i (by simpa using h)
theorem nth_set_ne : ∀ (L : List Piece) (i j : Nat) (A : Piece), i ≠ j → nth (L.set i A) j = nth L j
 | [], _, _, _, _ => rfl
 | B :: L, 0, 0, _, h => absurd rfl h
 | B :: L, 0, j + 1, _, _ => rfl
 | B :: L, i + 1, 0, _, _ => rfl
 | B :: L, i + 1, j + 1, A, h => nth_set_ne L i j A (by omega)
theorem pick_set {n : Int} {ns : List Int} {L : List Piece} (h0 : 0 ≤ n) (hn : ∀ m ∈ ns, n ≠ m) (A : Piece) : pickN ns (L.set n.toNat A) = pickN ns L := by
 unfold pickN
 refine List.map_congr_left (fun m hm => ?_)
 split
 ·exact nth_set_ne _ _ _ _ (by have := hn m hm; omega)
 ·rfl
theorem emps_in {w : World} {S : Nat → Prop} {L : List Piece} (h : SLs w S L) : SLs w S (emp :: L) := ⟨fun _ => False, fun _ h => h.elim, trivial, h.mono (fun k hk => ⟨hk, id⟩)⟩
theorem names_out {w : World} : ∀ (name : List Int) (L : List Piece) (S : Nat → Prop), NamesOk name L.length → SLs w S L → SLs w S (pickN name L ++ leftN name L)
 | [], L, S, _, h => h
 | n :: ns, L, S, hk, h => by
  by_cases h0 : 0 ≤ n
  ·have h1 : n.toNat < L.length := by have := hk.lt n List.mem_cons_self; omega
   have h2 := SLs.take n.toNat h (nth_get L n.toNat h1)
   have e : pickN (n :: ns) L ++ leftN (n :: ns) L = nth L n.toNat :: (pickN ns (L.set n.toNat emp) ++ leftN ns (L.set n.toNat emp)) := by
    rw [pick_set h0 (hk.head h0)]
    simp [pickN, leftN, h0]
   rw [e]
   exact SLs.congr (fun T hT => names_out ns _ T (by rw [List.length_set]; exact hk.tail) hT) h2
  ·have e : pickN (n :: ns) L ++ leftN (n :: ns) L = emp :: (pickN ns L ++ leftN ns L) := by simp [pickN, leftN, h0]
   rw [e]
   exact emps_in (names_out ns L S hk.tail h)
theorem putN_len {α : Type} : ∀ (name : List Int) (ys L : List α), (putN name ys L).length = L.length
 | [], _, _ => by unfold putN; rfl
 | n :: ns, [], L => by unfold putN; rfl
 | n :: ns, y :: ys, L => by
  unfold putN
  rw [putN_len ns ys]
  split
  ·rw [List.length_set]
  ·rfl
theorem putN_set {α : Type} : ∀ (ns : List Int) (ys L : List α) (i : Nat) (a : α), (∀ m ∈ ns, 0 ≤ m → m.toNat ≠ i) → putN ns ys (L.set i a) = (putN ns ys L).set i a
 | [], _, _, _, _, _ => by simp [putN]
 | n :: ns, [], L, _, _, _ => by simp [putN]
 | n :: ns, y :: ys, L, i, a, h => by
  unfold putN
  have ih := fun L' => putN_set ns ys L' i a (fun m hm => h m (List.mem_cons_of_mem _ hm))
  split
  ·rename_i h0
   rw [List.set_comm _ _ (fun e => h n List.mem_cons_self h0 e.symm), ih]
  ·exact ih L
theorem names_back {w : World} : ∀ (name : List Int) (Ys L : List Piece) (S : Nat → Prop), NamesOk name L.length → Ys.length = name.length → SLs w S (Ys ++ leftN name L) → SLs w S (putN name Ys L)
 | [], Ys, L, S, _, hl, h => by
  have : Ys = [] := List.eq_nil_of_length_eq_zero hl
  subst this
  unfold putN
  exact h
 | n :: ns, [], L, S, _, hl, h => by simp at hl
 | n :: ns, Y :: Ys, L, S, hk, hl, h => by
  unfold putN
  unfold leftN at h
  by_cases h0 : 0 ≤ n
  ·rw [if_pos h0] at h ⊢
   have h1 : n.toNat < L.length := by have := hk.lt n List.mem_cons_self; omega
   have h2 : SLs w S (Y :: putN ns Ys (L.set n.toNat emp)) := SLs.congr (fun T hT => names_back ns Ys _ T (by rw [List.length_set]; exact hk.tail) (by simpa using hl) hT) h
   have hne : ∀ m ∈ ns, 0 ≤ m → m.toNat ≠ n.toNat := fun m hm hm0 => by have := hk.head h0 m hm; omega
   rw [putN_set ns Ys L n.toNat emp hne] at h2
   have h3 := SLs.put (L := putN ns Ys L) n.toNat (by rw [putN_len]; exact h1) h2
   rw [← putN_set ns Ys L n.toNat Y hne] at h3
   exact h3
  ·rw [if_neg h0] at h ⊢
   exact names_back ns Ys L S hk.tail (by simpa using hl) (SLs.tl h)
def gsN (name : List Int) (ps : List Nat) : List (Option Nat) := name.map (fun n => if 0 ≤ n then ps[n.toNat]? else none)
def msN (name : List Int) (M : List PipeM) : List PipeM := name.map (fun n => if 0 ≤ n then M.getD n.toNat (emptyM 0) else emptyM 0)
theorem gsN_len (name : List Int) (ps : List Nat) : (gsN name ps).length = name.length := by simp [gsN]
theorem msN_len (name : List Int) (M : List PipeM) : (msN name M).length = name.length := by simp [msN]
theorem okN_gs {name : List Int} {ps : List Nat} (hk : NamesOk name ps.length) : oks (gsN name ps) = name.map (fun n => decide (0 ≤ n)) := by
 unfold oks gsN
 rw [List.map_map]
 refine List.map_congr_left (fun n hn => ?_)
 have := hk.lt n hn
 show (if 0 ≤ n then ps[n.toNat]? else none).isSome = _
 by_cases h0 : 0 ≤ n
 ·rw [if_pos h0, List.getElem?_eq_getElem (by omega), decide_eq_true h0]
  rfl
 ·rw [if_neg h0, decide_eq_false h0]
  rfl
theorem nth_zip {P : Nat → PipeM → Piece} : ∀ (ps : List Nat) (M : List PipeM) (i : Nat) (hi : i < ps.length) (hm : M.length = ps.length), nth (List.zipWith (pieceO P) (ps.map some) M) i = P (ps[i]) (M.getD i (emptyM 0))
 | p :: ps, x :: M, 0, _, _ => rfl
 | p :: ps, x :: M, i + 1, hi, hm => nth_zip ps M i (by simpa using hi) (by simpa using hm)
 | p :: ps, [], _, _, hm => by simp at hm
 | [], _, _, hi, _ => by simp at hi
theorem pick_zip {P : Nat → PipeM → Piece} {name : List Int} {ps : List Nat} {M : List PipeM} (hm : M.length = ps.length) (hk : NamesOk name ps.length) : pickN name (List.zipWith (pieceO P) (ps.map some) M) = List.zipWith (pieceO P) (gsN name ps) (msN name M) := by
 unfold pickN gsN msN
 rw [List.zipWith_map, List.zipWith_self]
 refine List.map_congr_left (fun n hn => ?_)
 have := hk.lt n hn
 by_cases h0 : 0 ≤ n
 ·rw [if_pos h0, if_pos h0, if_pos h0, nth_zip ps M _ (by omega) hm, List.getElem?_eq_getElem (by omega)]
  rfl
 ·rw [if_neg h0, if_neg h0]
  rfl
theorem put_zip {P : Nat → PipeM → Piece} : ∀ (name : List Int) (ps : List Nat) (M ys : List PipeM), M.length = ps.length → NamesOk name ps.length → ys.length = name.length →
  putN name (List.zipWith (pieceO P) (gsN name ps) ys) (List.zipWith (pieceO P) (ps.map some) M) = List.zipWith (pieceO P) (ps.map some) (backN name ys M)
 | [], ps, M, ys, _, _, _ => by unfold putN backN; rfl
 | n :: ns, ps, M, [], _, _, hl => by simp at hl
 | n :: ns, ps, M, y :: ys, hm, hk, hl => by
  have hlt := hk.lt n List.mem_cons_self
  have ih := fun M' (h : M'.length = ps.length) => put_zip (P := P) ns ps M' ys h hk.tail (by simpa using hl)
  show putN ns (List.zipWith (pieceO P) (gsN ns ps) ys) (if 0 ≤ n then (List.zipWith (pieceO P) (ps.map some) M).set n.toNat (pieceO P (if 0 ≤ n then ps[n.toNat]? else none) y) else _) = List.zipWith (pieceO P) (ps.map some) (backN ns ys (if 0 ≤ n then M.set n.toNat y else M))
  by_cases h0 : 0 ≤ n
  ·rw [if_pos h0, if_pos h0, if_pos h0, List.getElem?_eq_getElem (by omega)]
   have e := zip_set (P := P) (gs := ps.map some) (M := M) (i := n.toNat) (g := ps[n.toNat]'(by omega)) (by rw [List.getElem?_map, List.getElem?_eq_getElem (by omega)]; rfl) y
   show putN ns _ ((List.zipWith (pieceO P) (ps.map some) M).set n.toNat (P _ y)) = _
   rw [e]
   exact ih _ (by rw [List.length_set]; exact hm)
  ·rw [if_neg h0, if_neg h0]
   exact ih M hm
/-- The pipes by the names, out of all. -/
theorem pipes_out {w : World} {P : Nat → PipeM → Piece} {F : List Piece} {name : List Int} {ps : List Nat} {M : List PipeM} (hm : M.length = ps.length) (hk : NamesOk name ps.length) (H : SL w (all (List.zipWith (pieceO P) (ps.map some) M) :: F)) :
  SL w (all (List.zipWith (pieceO P) (gsN name ps) (msN name M)) :: all (leftN name (List.zipWith (pieceO P) (ps.map some) M)) :: F) := by
 have hl : (List.zipWith (pieceO P) (ps.map some) M).length = ps.length := by simp [hm]
 obtain ⟨T, h1, h2, h3⟩ := H
 have h4 := names_out name _ T (by rw [hl]; exact hk) (h2 : SLs w T _)
 rw [pick_zip hm hk] at h4
 obtain ⟨U, u1, u2, u3⟩ := SLs.app.1 h4
 exact ⟨U, fun k hk => h1 k (u1 k hk), u2, fun k => T k ∧ ¬ U k, fun k hk => ⟨h1 k hk.1, hk.2⟩, u3, h3.mono (fun k hk => ⟨⟨hk.1, fun hu => hk.2 (u1 k hu)⟩, fun ht => hk.2 ht.1⟩)⟩
theorem pipes_back {w : World} {P : Nat → PipeM → Piece} {F : List Piece} {name : List Int} {ps : List Nat} {M ys : List PipeM} (hm : M.length = ps.length) (hk : NamesOk name ps.length) (hy : ys.length = name.length)
  (H : SL w (all (List.zipWith (pieceO P) (gsN name ps) ys) :: all (leftN name (List.zipWith (pieceO P) (ps.map some) M)) :: F)) :
  SL w (all (List.zipWith (pieceO P) (ps.map some) (backN name ys M)) :: F) := by
 have hl : (List.zipWith (pieceO P) (ps.map some) M).length = ps.length := by simp [hm]
 obtain ⟨U, u1, u2, V, v1, v2, h3⟩ := H
 refine ⟨fun k => U k ∨ V k, fun k hk => hk.elim (u1 k) (fun h => (v1 k h).1), ?_, h3.mono (fun k hk => ⟨hk.1.1, fun h => h.elim hk.1.2 hk.2⟩)⟩
 have h4 : SLs w (fun k => U k ∨ V k) (List.zipWith (pieceO P) (gsN name ps) ys ++ leftN name (List.zipWith (pieceO P) (ps.map some) M)) :=
  SLs.app.2 ⟨U, fun k hk => .inl hk, u2, SLs.mono v2 (fun k hk => ⟨.inr hk, fun hu => (v1 k hk).2 hu⟩)⟩
 have h5 := names_back name _ _ _ (by rw [hl]; exact hk) (by simp [gsN_len, hy]) h4
 rw [put_zip name ps M ys hm hk hy] at h5
 exact h5
end Go.Proofs.YtcgajljbahbhdaaGreat
namespace Go.Proofs.YtcgajljbahbhdaaGreat
set_option linter.unusedVariables false
set_option linter.unusedSimpArgs false
open Go.RowKit Go.ChangeMaps
section
variable {P : Program} {w : World} {F L : List Piece} {te sz n c : Nat} {xs : List Value} {v : Value} {a : Option Addr} {σ : Fr} {op : Oper} {K : Value → World → Prop}
/-- The end of a function whose result stands in a block. -/
theorem retC {fn : Func} {R : Ending → World → Prop} {t ty b te : Nat} {cs : Array Value} (H : SL w L) (i : Nat) (hi : L[i]? = some (row b cs te)) (hr : fn.results = #[.cell t ty]) (hv : σ t = .pointer (some ⟨b, 0, none⟩))
  (hd : (match P.underlying ty with | some (.struct _) => true | some (.array _ _) => true | _ => false) = true) (hs : (P.info? ty).map (·.size) = some cs.size) (h : R (.returned (.agg cs)) w) : RetOf P fn R σ w := by
 cases hu : P.underlying ty with
 | none => rw [hu] at hd; cases hd
 | some d =>
  rw [hu] at hd
  cases d <;> first | cases hd; done | exact ⟨⟨_, fun a ha => results_cell_row hr a.tmps w b te cs (0, 0) _ (by rw [ha, hv]) (H.at i hi) hu rfl hs, h⟩⟩
theorem run_head {t : Nat} (x h : Operand) (hop : op.op = .slice t x none (some h) none) (ht : P.underlying t = some (.slice te)) (hsz : (P.info? te).map (·.size) = some sz) {i : Nat} (hi : i ≤ c)
  (hx : ev σ x = .slice a n c) (hh : ev σ h = .int .i64 (i : Int)) (w : World) : (execOp (ev σ) op).run P w = .ok (.value (.slice a i c)) w := by
 obtain ⟨inf, hinf, hs⟩ := Option.map_eq_some_iff.1 hsz
 have hle : (i : Int) ≤ (c : Int) := by omega
 have ha : (if c = 0 then a else a.map (·.add (0 * inf.size))) = a := by
  split
  ·rfl
  ·cases a with
   | none => rfl
   | some a =>
    obtain ⟨b, o, s⟩ := a
    simp [Addr.add]
 rw [Nat.zero_mul] at ha
 simp [execOp, hop, hx, hh, Instr.sliceAt, Instr.slice, run_underlying ht, Instr.sliceBounds, Instr.sliceBound, asIntOf, hle, sizeOf, typeInfo, hinf, Result.andThen, hi, ha]
/-- v[:i]. -/
theorem Mn.head (x h : Operand) (t : Nat) (hop : op.op = .slice t x none (some h) none) (ht : P.underlying t = some (.slice te)) (hsz : (P.info? te).map (·.size) = some sz) (i : Nat) (hi : i ≤ c)
  (hx : ev σ x = .slice a n c) (hh : ev σ h = .int .i64 (i : Int)) (k : K (.slice a i c) w) : Mn P σ op w K :=
 Mn.by (run_head x h hop ht hsz hi hx hh w) k
/-- append, the new value in a slice's form. -/
theorem SL.appF (H : SL w (Slc te sz v n xs :: F)) (s x : Operand) (t : TypeId) (z : Value) (bytes : Nat)
  (hop : op.op = .call { callee := .builtin .append, args := #[s, x], argTypes := #[t, t] })
  (ht : P.underlying t = some (.slice te)) (hinfo : (P.info? te).map (fun i => (i.zero, i.size, i.bytes)) = some (some z, sz, bytes)) (hz : z.cells.size = sz) (hs0 : 0 < sz)
  (hs : ev σ s = v) (A : Option Addr) (m cap : Nat) (news : List Value) (hx : ev σ x = .slice A m cap) (hr : Rd w sz A m news) (h1 : news.all Value.oneCell' = true) (hn : n + m < 1000000000) (hl : bytes ≤ 1000)
  (k : ∀ a c w', SL w' (Slc te sz (.slice a (n + m) c) (n + m) (xs ++ news) :: F) → K (.slice a (n + m) c) w') : Mn P σ op w K :=
 SL.app H s x t z bytes hop ht hinfo hz hs0 hs A m cap news hx hr h1 hn hl (fun v' w' H' => by
  obtain ⟨S, _, h, _⟩ := H'.on
  obtain ⟨a, c, rfl⟩ := own_form h
  exact k a c w' H')
theorem SL.slcForm (h : SL w (Slc te sz v n xs :: F)) : ∃ a c, v = .slice a n c := by
 obtain ⟨S, _, h, _⟩ := h.on
 exact own_form h
theorem SL.slcAddr (h : SL w (Slc te sz (.slice a n c) n xs :: F)) (hn : 0 < n) : ∃ g, a = some ⟨g, 0, none⟩ := by
 obtain ⟨S, _, h, _⟩ := h.on
 exact own_some h hn
end
section
variable {P : Program} {w : World} {F L : List Piece} {te sz n c : Nat} {xs : List Value} {v : Value} {σ : Fr} {op : Oper}
theorem exec_rem (x y : Operand) (t ty : Nat) (hop : op.op = .binOp .rem t x y ty) (a b : Int) (hx : ev σ x = .int .i64 a) (hy : ev σ y = .int .i64 b) (ha : 0 ≤ a) (hb : 0 < b) (w : World) : (execOp (ev σ) op).run P w = .ok (.value (.int .i64 (a % b))) w := by
 have h0 : b ≠ 0 := by omega
 have h1 : a.tmod b = a % b := Int.tmod_eq_emod_of_nonneg ha
 simp [execOp, hop, hx, hy, eqGuard, binOp, Op.intDiv, h0, h1, Result.andThen]
theorem Mn.rem {K : Value → World → Prop} (x y : Operand) (t ty : Nat) (hop : op.op = .binOp .rem t x y ty) (a b : Int) (hx : ev σ x = .int .i64 a) (hy : ev σ y = .int .i64 b) (ha : 0 ≤ a) (hb : 0 < b) (m : Int) (hm : a % b = m) (k : K (.int .i64 m) w) : Mn P σ op w K := by
 subst hm
 exact Mn.by (exec_rem x y t ty hop a b hx hy ha hb w) k
theorem MnC.rem {S : World → Prop} {K : Value → Prop} (x y : Operand) (t ty : Nat) (hop : op.op = .binOp .rem t x y ty) (a b : Int) (hx : ev σ x = .int .i64 a) (hy : ev σ y = .int .i64 b) (ha : 0 ≤ a) (hb : 0 < b) (m : Int) (hm : a % b = m) (k : K (.int .i64 m)) : MnC P S σ op K := by
 subst hm
 exact ⟨⟨_, fun w _ => exec_rem x y t ty hop a b hx hy ha hb w, k⟩⟩
/-- The value of v[1:], v a queue; the queue stays as it is. -/
theorem Mn.rest (H : SL w L) (i : Nat) (hi : L[i]? = some (Qu te sz v (n + 1) xs)) {K : Value → World → Prop} (x l : Operand) (t : Nat) (hop : op.op = .slice t x (some l) none none) (ht : P.underlying t = some (.slice te)) (hsz : (P.info? te).map (·.size) = some sz)
  (hx : ev σ x = v) (hl : ev σ l = .int .i64 1) (k : K (rest1 sz v) w) : Mn P σ op w K := by
 have h1 := H.one i hi
 obtain ⟨a, c, rfl⟩ := h1.quForm
 exact Mn.by (run_tail (lo := 0) x l hop ht hsz (by omega) h1.quLe hx hl w) k
end
theorem ints_all (l : List Int) : (ints l).all Value.oneCell' = true := by
 rw [List.all_eq_true]
 intro v hv
 unfold ints at hv
 obtain ⟨i, _, rfl⟩ := List.mem_map.1 hv
 rfl
end Go.Proofs.YtcgajljbahbhdaaGreat
namespace Go.Proofs.YtcgajljbahbhdaaGreat
set_option linter.unusedVariables false
set_option linter.unusedSimpArgs false
open Go.RowKit
set_option maxRecDepth 100000
theorem take0_some {w : World} {F : List Piece} {cb g off n c : Nat} {vo : Value} {x : Int} {l : List Int} (H : SL w (row cb #[.slice (some ⟨g, off, none⟩) (n + 1) c, vo] 118 :: Qu 3 1 (.slice (some ⟨g, off, none⟩) (n + 1) c) (n + 1) (ints (x :: l)) :: F)) : Calls Tryz.prog 80 #[.pointer (some ⟨cb, 0, none⟩)] w fun o w' => o = .returned (.tuple #[.int .i64 x, .bool true]) ∧ SL w' (row cb #[rest1 1 (.slice (some ⟨g, off, none⟩) (n + 1) c), vo] 118 :: Qu 3 1 (.slice (some ⟨g, off, none⟩) (n + 1) c) (n + 1) (ints (x :: l)) :: F) := by
 refine calls_den (args := [_]) Tryz.func80 rfl (Nat.le_of_ble_eq_true (by kernel_rfl)) (by kernel_rfl) ?_
 refine ⟨?_⟩
 refine ⟨?_⟩
 refine H.ldi 0 rfl (v := .slice (some ⟨g, off, none⟩) (n + 1) c) rfl ?_
 refine BB.no (beq_eq_false_iff_ne.2 (by omega)) ?_
 refine Cn.no ?_
 refine ⟨?_⟩
 refine H.ldi 0 rfl (v := .slice (some ⟨g, off, none⟩) (n + 1) c) rfl ?_
 refine Ix.at 0 1 (by kernel_rfl) (rfl) (Nat.succ_pos _) ?_
 refine H.ldQ 1 rfl (o := 0 * 1) (v := .int .i64 x) (rfl) ?_
 refine ⟨?_⟩
 refine H.ldi 0 rfl (v := .slice (some ⟨g, off, none⟩) (n + 1) c) rfl ?_
 refine Mn.rest H 1 rfl (.tmp 21) (.const (.int .i64 1)) 23 (by rfl) (by kernel_rfl) (by kernel_rfl) (by rfl) (by rfl) ?_
 refine H.st0 (cs' := #[(rest1 1 (.slice (some ⟨g, off, none⟩) (n + 1) c)), vo]) rfl rfl rfl fun w H => ?_
 refine ⟨?_⟩
 refine ret2 (fn := Tryz.f80) (.int .i64 x) (.bool true) rfl (by rfl) (by rfl) ?_
 exact ⟨rfl, H⟩
theorem take1_none {w : World} {F : List Piece} {cb c : Nat} {a : Option Addr} {vo : Value} (H : SL w (row cb #[vo, .slice a 0 c] 118 :: F)) : Calls Tryz.prog 80 #[.pointer (some ⟨cb, 1, none⟩)] w fun o w' => o = .returned (.tuple #[.int .i64 0, .bool false]) ∧ SL w' (row cb #[vo, .slice a 0 c] 118 :: F) := by
 refine calls_den (args := [_]) Tryz.func80 rfl (Nat.le_of_ble_eq_true (by kernel_rfl)) (by kernel_rfl) ?_
 refine ⟨?_⟩
 refine ⟨?_⟩
 refine H.ldi 0 rfl (v := .slice a 0 c) rfl ?_
 refine BB.yes rfl ?_
 refine Cn.yes ?_
 refine ⟨?_⟩
 refine ret2 (fn := Tryz.f80) (.int .i64 0) (.bool false) rfl (by rfl) (by rfl) ?_
 exact ⟨rfl, H⟩
theorem take1_some {w : World} {F : List Piece} {cb g off n c : Nat} {vo : Value} {x : Int} {l : List Int} (H : SL w (row cb #[vo, .slice (some ⟨g, off, none⟩) (n + 1) c] 118 :: Qu 3 1 (.slice (some ⟨g, off, none⟩) (n + 1) c) (n + 1) (ints (x :: l)) :: F)) : Calls Tryz.prog 80 #[.pointer (some ⟨cb, 1, none⟩)] w fun o w' => o = .returned (.tuple #[.int .i64 x, .bool true]) ∧ SL w' (row cb #[vo, rest1 1 (.slice (some ⟨g, off, none⟩) (n + 1) c)] 118 :: Qu 3 1 (.slice (some ⟨g, off, none⟩) (n + 1) c) (n + 1) (ints (x :: l)) :: F) := by
 refine calls_den (args := [_]) Tryz.func80 rfl (Nat.le_of_ble_eq_true (by kernel_rfl)) (by kernel_rfl) ?_
 refine ⟨?_⟩
 refine ⟨?_⟩
 refine H.ldi 0 rfl (v := .slice (some ⟨g, off, none⟩) (n + 1) c) rfl ?_
 refine BB.no (beq_eq_false_iff_ne.2 (by omega)) ?_
 refine Cn.no ?_
 refine ⟨?_⟩
 refine H.ldi 0 rfl (v := .slice (some ⟨g, off, none⟩) (n + 1) c) rfl ?_
 refine Ix.at 0 1 (by kernel_rfl) (rfl) (Nat.succ_pos _) ?_
 refine H.ldQ 1 rfl (o := 0 * 1) (v := .int .i64 x) (rfl) ?_
 refine ⟨?_⟩
 refine H.ldi 0 rfl (v := .slice (some ⟨g, off, none⟩) (n + 1) c) rfl ?_
 refine Mn.rest H 1 rfl (.tmp 21) (.const (.int .i64 1)) 23 (by rfl) (by kernel_rfl) (by kernel_rfl) (by rfl) (by rfl) ?_
 refine H.st0 (cs' := #[vo, (rest1 1 (.slice (some ⟨g, off, none⟩) (n + 1) c))]) rfl rfl rfl fun w H => ?_
 refine ⟨?_⟩
 refine ret2 (fn := Tryz.f80) (.int .i64 x) (.bool true) rfl (by rfl) (by rfl) ?_
 exact ⟨rfl, H⟩
theorem next_some {w : World} {F : List Piece} {cb g off n c : Nat} {vo : Value} {x : Int} {l : List Int} (H : SL w (row cb #[.slice (some ⟨g, off, none⟩) (n + 1) c, vo] 118 :: Qu 3 1 (.slice (some ⟨g, off, none⟩) (n + 1) c) (n + 1) (ints (x :: l)) :: F)) : Calls Tryz.prog 42 #[.pointer (some ⟨cb, 0, none⟩)] w fun o w' => o = .returned (.tuple #[.int .i64 x, .bool true]) ∧ SL w' (row cb #[rest1 1 (.slice (some ⟨g, off, none⟩) (n + 1) c), vo] 118 :: Qu 3 1 (.slice (some ⟨g, off, none⟩) (n + 1) c) (n + 1) (ints (x :: l)) :: F) := by
 refine calls_den (args := [_]) Tryz.func42 rfl (Nat.le_of_ble_eq_true (by kernel_rfl)) (by kernel_rfl) ?_
 refine ⟨?_⟩
 refine ⟨?_⟩
 refine BB.no rfl ?_
 refine Cn.no ?_
 refine ⟨?_⟩
 refine Mn.pure (.func (.func 80) #[.pointer (some ⟨cb, 0, none⟩)] #[]) (by kernel_rfl) ?_
 refine ⟨?_⟩
 refine Cl.sl (by kernel_rfl) (take0_some H) fun w H => ?_
 refine ret2 (fn := Tryz.f42) (.int .i64 x) (.bool true) rfl (by rfl) (by rfl) ?_
 exact ⟨rfl, H⟩
theorem left_open {w : World} {F : List Piece} {cb n c m d : Nat} {a b : Option Addr} (H : SL w (row cb #[.slice a n c, .slice b m d] 118 :: F)) : Calls Tryz.prog 47 #[.pointer (some ⟨cb, 0, none⟩)] w fun o w' => o = .returned (.tuple #[.int .i64 n, .int .i64 m]) ∧ SL w' (row cb #[.slice a n c, .slice b m d] 118 :: F) := by
 refine calls_den (args := [_]) Tryz.func47 rfl (Nat.le_of_ble_eq_true (by kernel_rfl)) (by kernel_rfl) ?_
 refine ⟨?_⟩
 refine ⟨?_⟩
 refine BB.no rfl ?_
 refine Cn.no ?_
 refine ⟨?_⟩
 refine Drw.of [(0, true), (1, true), (2, true), (3, true), (4, true), (5, true), (6, true), (7, true), (8, true), (9, true), (10, true), (11, true), (12, true), (13, true)] (by kernel_rfl) mixed (fun w => SL w _) H.drew ?_
 replace H := H.drew
 refine LdC.i 0 rfl (v := .slice a n c) rfl ?_
 refine LdC.i 0 rfl (v := .slice b m d) rfl ?_
 refine ret2 (fn := Tryz.f47) (.int .i64 ↑n) (.int .i64 ↑m) rfl (by rfl) (by rfl) ?_
 exact ⟨rfl, H⟩
theorem copy_open {w : World} {F : List Piece} {cb : Nat} {v1 v2 : Value} (h1 : v1.oneCell' = true) (h2 : v2.oneCell' = true) (H : SL w (row cb #[v1, v2] 118 :: F)) : Calls Tryz.prog 41 #[.pointer (some ⟨cb, 0, none⟩)] w fun o w' => ∃ b, o = .returned (.pointer (some ⟨b, 0, none⟩)) ∧ SL w' (row b #[v1, v2] 118 :: row cb #[v1, v2] 118 :: F) := by
 refine calls_den (args := [_]) Tryz.func41 rfl (Nat.le_of_ble_eq_true (by kernel_rfl)) (by kernel_rfl) ?_
 refine ⟨?_⟩
 refine ⟨?_⟩
 refine BB.no rfl ?_
 refine Cn.no ?_
 refine ⟨?_⟩
 refine H.ldi 0 rfl (v := v1) rfl ?_
 refine H.ldi 0 rfl (v := v2) rfl ?_
 refine Nw.as #[.slice none 0 0, .slice none 0 0] 118 rfl H fun b3 w H => ?_
 refine H.st0 (cs' := #[v1, .slice none 0 0]) rfl rfl (by first | rfl | exact h1 | exact h2) fun w H => ?_
 refine H.st0 (cs' := #[v1, v2]) rfl rfl (by first | rfl | exact h1 | exact h2) fun w H => ?_
 refine ⟨?_⟩
 refine ret1 (fn := Tryz.f41) (.pointer (some ⟨b3, 0, none⟩)) rfl (by rfl) ?_
 exact ⟨b3, rfl, H⟩
theorem draw_one {w : World} {F : List Piece} {cb : Nat} {v1 v2 : Value} (H : SL w (row cb #[v1, v2] 118 :: F)) : Calls Tryz.prog 121 #[.pointer (some ⟨cb, 0, none⟩), .int .i64 1] w fun o w' => o = .returned (.tuple #[.int .i64 0, .int .i64 0]) ∧ SL w' (row cb #[v1, v2] 118 :: F) := by
 refine calls_den (args := [_, _]) Tryz.func121 rfl (Nat.le_of_ble_eq_true (by kernel_rfl)) (by kernel_rfl) ?_
 refine ⟨?_⟩
 refine ⟨?_⟩
 refine BB.no rfl ?_
 refine BB.no rfl ?_
 refine Cn.no ?_
 refine ⟨?_⟩
 refine BB.no rfl ?_
 refine BB.yes rfl ?_
 refine Cn.yes ?_
 refine ⟨?_⟩
 refine ret2 (fn := Tryz.f121) (.int .i64 0) (.int .i64 0) rfl (by rfl) (by rfl) ?_
 exact ⟨rfl, H⟩
theorem draw_none {w : World} {F : List Piece} {cb c : Nat} {a : Option Addr} {vo : Value} {n : Int} (h0 : 2 ≤ n) (h1 : n ≤ 64) (H : SL w (row cb #[vo, .slice a 0 c] 118 :: F)) : Calls Tryz.prog 121 #[.pointer (some ⟨cb, 0, none⟩), .int .i64 n] w fun o w' => o = .returned (.tuple #[.int .i64 0, .int .i64 0]) ∧ SL w' (row cb #[vo, .slice a 0 c] 118 :: F) := by
 refine calls_den (args := [_, _]) Tryz.func121 rfl (Nat.le_of_ble_eq_true (by kernel_rfl)) (by kernel_rfl) ?_
 refine ⟨?_⟩
 refine ⟨?_⟩
 refine BB.no (decide_eq_false (by omega)) ?_
 refine BB.no (decide_eq_false (by omega)) ?_
 refine Cn.no ?_
 refine ⟨?_⟩
 refine BB.no rfl ?_
 refine BB.no (beq_eq_false_iff_ne.2 (by omega)) ?_
 refine Cn.no ?_
 refine ⟨?_⟩
 refine Mn.pure (.func (.func 80) #[.pointer (some ⟨cb, 1, none⟩)] #[]) (by kernel_rfl) ?_
 refine ⟨?_⟩
 refine Cl.sl (by kernel_rfl) (take1_none H) fun w H => ?_
 refine ⟨?_⟩
 refine Mn.rem (.tmp 30) (.tmp 31) 3 3 (by rfl) 0 n (by rfl) (by rfl) ((by omega)) ((by omega)) 0 (Int.zero_emod n) ?_
 refine ret2 (fn := Tryz.f121) (.int .i64 0) (.int .i64 0) rfl (by rfl) (by rfl) ?_
 exact ⟨rfl, H⟩
theorem draw_some {w : World} {F : List Piece} {cb g off k c : Nat} {vo : Value} {n x : Int} {l : List Int} (h0 : 2 ≤ n) (h1 : n ≤ 64) (hx : 0 ≤ x) (H : SL w (row cb #[vo, .slice (some ⟨g, off, none⟩) (k + 1) c] 118 :: Qu 3 1 (.slice (some ⟨g, off, none⟩) (k + 1) c) (k + 1) (ints (x :: l)) :: F)) : Calls Tryz.prog 121 #[.pointer (some ⟨cb, 0, none⟩), .int .i64 n] w fun o w' => o = .returned (.tuple #[.int .i64 (x % n), .int .i64 0]) ∧ SL w' (row cb #[vo, rest1 1 (.slice (some ⟨g, off, none⟩) (k + 1) c)] 118 :: Qu 3 1 (.slice (some ⟨g, off, none⟩) (k + 1) c) (k + 1) (ints (x :: l)) :: F) := by
 refine calls_den (args := [_, _]) Tryz.func121 rfl (Nat.le_of_ble_eq_true (by kernel_rfl)) (by kernel_rfl) ?_
 refine ⟨?_⟩
 refine ⟨?_⟩
 refine BB.no (decide_eq_false (by omega)) ?_
 refine BB.no (decide_eq_false (by omega)) ?_
 refine Cn.no ?_
 refine ⟨?_⟩
 refine BB.no rfl ?_
 refine BB.no (beq_eq_false_iff_ne.2 (by omega)) ?_
 refine Cn.no ?_
 refine ⟨?_⟩
 refine Mn.pure (.func (.func 80) #[.pointer (some ⟨cb, 1, none⟩)] #[]) (by kernel_rfl) ?_
 refine ⟨?_⟩
 refine Cl.sl (by kernel_rfl) (take1_some H) fun w H => ?_
 refine ⟨?_⟩
 refine Mn.rem (.tmp 30) (.tmp 31) 3 3 (by rfl) x n (by rfl) (by rfl) (hx) ((by omega)) (x % n) (rfl) ?_
 refine ret2 (fn := Tryz.f121) (.int .i64 (x % n)) (.int .i64 0) rfl (by rfl) (by rfl) ?_
 exact ⟨rfl, H⟩
/-- A cursor: what is left of the plan and of the draws. -/
def CurP (cb : Nat) (pl dr : List Int) : Piece := exP fun (v : Value × Value) => all [row cb #[v.1, v.2] 118, Qu 3 1 v.1 pl.length (ints pl), Qu 3 1 v.2 dr.length (ints dr)]
theorem CurP.iff {w : World} {F : List Piece} {cb : Nat} {pl dr : List Int} : SL w (CurP cb pl dr :: F) ↔ ∃ v1 v2, SL w (row cb #[v1, v2] 118 :: Qu 3 1 v1 pl.length (ints pl) :: Qu 3 1 v2 dr.length (ints dr) :: F) :=
 ⟨fun h => by
  obtain ⟨v, h⟩ := SL.exP.1 h
  exact ⟨v.1, v.2, SL.all.1 h⟩, fun ⟨v1, v2, h⟩ => SL.exP.2 ⟨(v1, v2), SL.all.2 h⟩⟩
section
variable {w : World} {F : List Piece} {cb : Nat} {pl dr : List Int} {x : Int}
theorem cur_left (H : SL w (CurP cb pl dr :: F)) : Calls Tryz.prog 47 #[.pointer (some ⟨cb, 0, none⟩)] w fun o w' => o = .returned (.tuple #[.int .i64 pl.length, .int .i64 dr.length]) ∧ SL w' (CurP cb pl dr :: F) := by
 obtain ⟨v1, v2, H⟩ := CurP.iff.1 H
 obtain ⟨a, c, rfl⟩ := SL.quForm H.up1
 obtain ⟨b, d, rfl⟩ := SL.quForm H.up2
 exact (left_open H).mono (fun o w' q => ⟨q.1, CurP.iff.2 ⟨_, _, q.2⟩⟩)
theorem cur_next (H : SL w (CurP cb (x :: pl) dr :: F)) : Calls Tryz.prog 42 #[.pointer (some ⟨cb, 0, none⟩)] w fun o w' => o = .returned (.tuple #[.int .i64 x, .bool true]) ∧ SL w' (CurP cb pl dr :: F) := by
 obtain ⟨v1, v2, H⟩ := CurP.iff.1 H
 obtain ⟨g, off, c, rfl⟩ := SL.quSome H.up1 (Nat.succ_pos _)
 exact (next_some H).mono (fun o w' q => ⟨q.1, CurP.iff.2 ⟨_, _, (SL.quTail q.2.up1).up1⟩⟩)
theorem cur_copy (H : SL w (CurP cb (x :: pl) dr :: F)) : Calls Tryz.prog 41 #[.pointer (some ⟨cb, 0, none⟩)] w fun o w' => ∃ b, o = .returned (.pointer (some ⟨b, 0, none⟩)) ∧
  ∃ g off c v2, SL w' (row b #[.slice (some ⟨g, off, none⟩) (pl.length + 1) c, v2] 118 :: Qu 3 1 (.slice (some ⟨g, off, none⟩) (pl.length + 1) c) (pl.length + 1) (ints (x :: pl)) :: row cb #[.slice (some ⟨g, off, none⟩) (pl.length + 1) c, v2] 118 :: Qu 3 1 v2 dr.length (ints dr) :: F) := by
 obtain ⟨v1, v2, H⟩ := CurP.iff.1 H
 obtain ⟨g, off, c, rfl⟩ := SL.quSome H.up1 (Nat.succ_pos _)
 obtain ⟨b, d, rfl⟩ := SL.quForm H.up2
 exact (copy_open rfl rfl H).mono (fun o w' ⟨b, q1, q2⟩ => ⟨b, q1, g, off, c, _, q2.up2.up1⟩)
/-- The copy is thrown away. -/
theorem cur_uncopy {b g off c : Nat} {v1 v2 : Value} (H : SL w (row b #[v1, v2] 118 :: Qu 3 1 (.slice (some ⟨g, off, none⟩) (pl.length + 1) c) (pl.length + 1) (ints (x :: pl)) :: row cb #[.slice (some ⟨g, off, none⟩) (pl.length + 1) c, v2] 118 :: Qu 3 1 v2 dr.length (ints dr) :: F)) : SL w (CurP cb (x :: pl) dr :: F) :=
 CurP.iff.2 ⟨_, _, H.tl.up1⟩
theorem cur_draw {n : Nat} (h0 : 1 ≤ n) (h1 : n ≤ 64) (hd : ∀ y ∈ dr, 0 ≤ y) (H : SL w (CurP cb pl dr :: F)) : Calls Tryz.prog 121 #[.pointer (some ⟨cb, 0, none⟩), .int .i64 n] w fun o w' =>
  o = .returned (.tuple #[.int .i64 ((if n = 1 ∨ dr.length = 0 then 0 else (dr.getD 0 0).toNat % n : Nat) : Int), .int .i64 0]) ∧ SL w' (CurP cb pl (if n = 1 then dr else dr.tail) :: F) := by
 obtain ⟨v1, v2, H⟩ := CurP.iff.1 H
 by_cases h : n = 1
 ·subst h
  exact (draw_one H).mono (fun o w' q => ⟨by rw [q.1]; rfl, CurP.iff.2 ⟨_, _, q.2⟩⟩)
 ·cases dr with
  | nil =>
   obtain ⟨b, d, rfl⟩ := SL.quForm H.up2
   refine (draw_none (by omega) (by omega) H).mono (fun o w' q => ⟨?_, ?_⟩)
   ·rw [q.1, if_pos (.inr rfl)]
    rfl
   ·rw [if_neg h]
    exact CurP.iff.2 ⟨_, _, q.2⟩
  | cons y dr =>
   have hy := hd y List.mem_cons_self
   obtain ⟨g, off, c, rfl⟩ := SL.quSome H.up2 (Nat.succ_pos _)
   have H' := H.up2.up1
   refine (draw_some (n := (n : Int)) (by omega) (by omega) hy H').mono (fun o w' q => ⟨?_, ?_⟩)
   ·rw [q.1, if_neg (by simp [h])]
    obtain ⟨m, rfl⟩ := Int.eq_ofNat_of_zero_le hy
    rfl
   ·rw [if_neg h]
    exact CurP.iff.2 ⟨_, _, (SL.quTail q.2.up1).dn2⟩
end
end Go.Proofs.YtcgajljbahbhdaaGreat
namespace Go.Proofs.YtcgajljbahbhdaaGreat
set_option linter.unusedVariables false
set_option linter.unusedSimpArgs false
open Go.RowKit
section
variable {w : World} {F : List Piece} {gs : List (Option Nat)} {M : List PipeM}
theorem take_ps (hM : M.length = gs.length) {i g : Nat} (h3 : gs[i]? = some (some g)) (H : SL w (PsP gs M :: F)) : SL w (PipeP g (M.getD i (emptyM 0)) :: all ((List.zipWith (pieceO PipeP) gs M).set i emp) :: F) := by
 have hi : i < M.length := by rw [hM]; exact (List.getElem?_eq_some_iff.1 h3).1
 rw [List.getD_eq_getElem?_getD, List.getElem?_eq_getElem hi]
 exact all_take (P := PipeP) h3 (List.getElem?_eq_getElem hi) H
theorem put_ps (hM : M.length = gs.length) {i g : Nat} (h3 : gs[i]? = some (some g)) {y : PipeM} (H : SL w (PipeP g y :: all ((List.zipWith (pieceO PipeP) gs M).set i emp) :: F)) : SL w (PsP gs (M.set i y) :: F) := by
 have hi : i < M.length := by rw [hM]; exact (List.getElem?_eq_some_iff.1 h3).1
 exact all_put (P := PipeP) h3 (List.getElem?_eq_getElem hi) H
theorem take_rs (hM : M.length = gs.length) {i g : Nat} (h3 : gs[i]? = some (some g)) (H : SL w (RsP gs M :: F)) : SL w (RefP g (M.getD i (emptyM 0)) :: all ((List.zipWith (pieceO RefP) gs M).set i emp) :: F) := by
 have hi : i < M.length := by rw [hM]; exact (List.getElem?_eq_some_iff.1 h3).1
 rw [List.getD_eq_getElem?_getD, List.getElem?_eq_getElem hi]
 exact all_take (P := RefP) h3 (List.getElem?_eq_getElem hi) H
theorem put_rs (hM : M.length = gs.length) {i g : Nat} (h3 : gs[i]? = some (some g)) {y : PipeM} (H : SL w (RefP g y :: all ((List.zipWith (pieceO RefP) gs M).set i emp) :: F)) : SL w (RsP gs (M.set i y) :: F) := by
 have hi : i < M.length := by rw [hM]; exact (List.getElem?_eq_some_iff.1 h3).1
 exact all_put (P := RefP) h3 (List.getElem?_eq_getElem hi) H
/-- A send, or a receive, on the pipe of a name. -/
theorem ps_send {n : Nat} (hM : M.length = gs.length) (hI : AllInv n M) (hn : n ≤ 1000000) (c : CaseM) (hs : c.send = true) (H : SL w (PsP gs M :: F)) :
  Calls Tryz.prog 133 #[adr (nm gs c.chan), .int .i64 c.value] w fun e w' => e = .returned (.tuple #[(tryF (oks gs) M c).1.1.agg, .int .i64 (tryF (oks gs) M c).1.2]) ∧ SL w' (PsP gs (tryF (oks gs) M c).2 :: F) := by
 unfold tryF
 rcases nm_pos gs c.chan with ⟨h1, h2⟩ | ⟨i, g, h1, h2, h3, h4⟩
 ·rw [h1, h2]
  refine (pipe_send_nil c.value w).mono ?_
  rintro e w' ⟨rfl, f⟩
  exact ⟨rfl, H.later f⟩
 ·rw [h1, h2]
  dsimp only
  rw [if_pos hs]
  have hi : i < M.length := by rw [hM]; exact (List.getElem?_eq_some_iff.1 h3).1
  refine (sl_send c.value (hI.get hi) hn (take_ps hM h3 H)).mono ?_
  rintro e w' ⟨rfl, H1⟩
  exact ⟨rfl, put_ps hM h3 H1⟩
theorem ps_recv {n : Nat} (hM : M.length = gs.length) (hI : AllInv n M) (hn : n ≤ 1000000) (c : CaseM) (hs : c.send = false) (H : SL w (PsP gs M :: F)) :
  Calls Tryz.prog 134 #[adr (nm gs c.chan)] w fun e w' => e = .returned (tryF (oks gs) M c).1.1.agg ∧ (tryF (oks gs) M c).1.2 = 0 ∧ SL w' (PsP gs (tryF (oks gs) M c).2 :: F) := by
 unfold tryF
 rcases nm_pos gs c.chan with ⟨h1, h2⟩ | ⟨i, g, h1, h2, h3, h4⟩
 ·rw [h1, h2]
  refine (pipe_recv_nil w).mono ?_
  rintro e w' ⟨rfl, f⟩
  exact ⟨rfl, rfl, H.later f⟩
 ·rw [h1, h2]
  dsimp only
  rw [if_neg (by rw [hs]; simp)]
  have hi : i < M.length := by rw [hM]; exact (List.getElem?_eq_some_iff.1 h3).1
  have hx := hI.get hi
  refine (sl_recv (by have := hx.snd.1; omega) hx.buf (hx.cnt (by omega)) (take_ps hM h3 H)).mono ?_
  rintro e w' ⟨rfl, H1⟩
  exact ⟨rfl, rfl, put_ps hM h3 H1⟩
set_option maxRecDepth 100000 in
set_option maxHeartbeats 1000000 in
theorem f_try {B : Piece} {b : Option Addr} {cb m n : Nat} (c : CaseM) (hM : M.length = gs.length) (hm : m = gs.length) (hB : Reader B 1 b m (pcs gs)) (hI : AllInv n M) (hn : n ≤ 1000000) (H : SL w (PsP gs M :: B :: F)) :
  Calls Tryz.prog 115 #[c.agg, .slice b m cb] w fun e w' => e = .returned (.tuple #[(tryF (oks gs) M c).1.1.agg, .int .i64 (tryF (oks gs) M c).1.2]) ∧ SL w' (PsP gs (tryF (oks gs) M c).2 :: B :: F) := by
 subst hm
 have k1 := fun (w' : World) (h : Rd w' 1 b gs.length (pcs gs)) => f_named (cap := cb) c.chan rfl h
 have k2 := fun hs (w' : World) (F' : List Piece) (H : SL w' (PsP gs M :: F')) => ps_send hM hI hn c hs H
 have k3 := fun hs (w' : World) (F' : List Piece) (H : SL w' (PsP gs M :: F')) => ps_recv hM hI hn c hs H
 obtain ⟨pv, hpv⟩ : ∃ p, adr (nm gs c.chan) = p := ⟨_, rfl⟩
 obtain ⟨R, hR⟩ : ∃ R, tryF (oks gs) M c = R := ⟨_, rfl⟩
 rw [hpv] at k1 k2 k3
 rw [hR] at k2 k3
 rw [hR]
 clear hpv hR
 obtain ⟨⟨⟨y1, y2, y3, y4, ⟨zg, zc, zv⟩⟩, ye⟩, y⟩ := R
 obtain ⟨cs, cc, cv⟩ := c
 unfold GotM.agg at k2 k3
 unfold GotM.agg CaseM.agg
 dsimp only at k1 k2 k3 ⊢
 have K1 := Lib.hid k1
 have K2 := Lib.hid k2
 have K3 := Lib.hid k3
 have HMM := Lib.hid hM
 clear k1 k2 k3 hM hI
 cases cs with
 | true =>
  go_enter Tryz.func115, Tryz.ntmps115
  go_wp2_with fail
  have H2 := (H.alloc (.cells #[.bool true, .int .i64 cc, .int .i64 cv] 98)).alloc (.cells #[.bool false, .bool false, .bool false, .int .i64 0, .int .i64 0, .int .i64 0, .int .i64 0] 171)
  rw [size_alloc] at H2
  obtain ⟨bc, hbc⟩ : ∃ b, w.heap.size = b := ⟨_, rfl⟩
  obtain ⟨r, hr⟩ : ∃ b, bc + 1 = b := ⟨_, rfl⟩
  obtain ⟨W, hW⟩ : ∃ W, (w.alloc (.cells #[.bool true, .int .i64 cc, .int .i64 cv] 98)).alloc (.cells #[.bool false, .bool false, .bool false, .int .i64 0, .int .i64 0, .int .i64 0, .int .i64 0] 171) = W := ⟨_, rfl⟩
  rw [hbc, hr, hW] at H2
  simp only [hW, hbc, hr]
  clear hbc hr hW
  obtain ⟨r0, r1, r2, r3, r4, r5, r6, rf⟩ := box7 (H2.at 0 rfl)
  obtain ⟨c0, c1, c2, cf⟩ := pew_cells (H2.at 1 rfl)
  have rl := lt_of_block (H2.at 0 rfl)
  have cl := lt_of_block (H2.at 1 rfl)
  obtain ⟨n1, n2⟩ := H2.ne 0 1 (by decide) rfl rfl
  refine (K1.out _ (H2.up3.read hB)).mono ?_
  rintro e w' ⟨rfl, rfl⟩
  go_wp2_with fail
  refine (K2.out trivial _ _ H2.up2).mono ?_
  rintro e w1 ⟨rfl, H3⟩
  clear r0 r1 r2 r3 r4 r5 r6 rf c0 c1 c2 cf rl cl n1 n2
  obtain ⟨r0, r1, r2, r3, r4, r5, r6, rf⟩ := box7 (H3.at 1 rfl)
  obtain ⟨c0, c1, c2, cf⟩ := pew_cells (H3.at 2 rfl)
  have rl := lt_of_block (H3.at 1 rfl)
  have cl := lt_of_block (H3.at 2 rfl)
  obtain ⟨n1, n2⟩ := H3.ne 1 2 (by decide) rfl rfl
  go_wp2_with fail
  refine bodyPost_ret (v := .tuple #[.agg #[.bool y1, .bool y2, .bool y3, .int .i64 y4, .int .i64 zg, .int .i64 zc, .int .i64 zv], .int .i64 ye]) (by simp [results, Tryz.results115, go_sem, r0, r1, r2, r3, r4, r5, r6, rl, n1, n2]) rfl ⟨rfl, SL.tl (A := any r) ?_⟩
  have HE := H3.drop2.up1.toAny
  repeat (first | with_reducible refine SL.scr ?_ _ _ | with_reducible refine SL.allocd ?_ _ | with_reducible exact HE)
 | false =>
  go_enter Tryz.func115, Tryz.ntmps115
  go_wp2_with fail
  have H2 := (H.alloc (.cells #[.bool false, .int .i64 cc, .int .i64 cv] 98)).alloc (.cells #[.bool false, .bool false, .bool false, .int .i64 0, .int .i64 0, .int .i64 0, .int .i64 0] 171)
  rw [size_alloc] at H2
  obtain ⟨bc, hbc⟩ : ∃ b, w.heap.size = b := ⟨_, rfl⟩
  obtain ⟨r, hr⟩ : ∃ b, bc + 1 = b := ⟨_, rfl⟩
  obtain ⟨W, hW⟩ : ∃ W, (w.alloc (.cells #[.bool false, .int .i64 cc, .int .i64 cv] 98)).alloc (.cells #[.bool false, .bool false, .bool false, .int .i64 0, .int .i64 0, .int .i64 0, .int .i64 0] 171) = W := ⟨_, rfl⟩
  rw [hbc, hr, hW] at H2
  simp only [hW, hbc, hr]
  clear hbc hr hW
  obtain ⟨r0, r1, r2, r3, r4, r5, r6, rf⟩ := box7 (H2.at 0 rfl)
  obtain ⟨c0, c1, c2, cf⟩ := pew_cells (H2.at 1 rfl)
  have rl := lt_of_block (H2.at 0 rfl)
  have cl := lt_of_block (H2.at 1 rfl)
  obtain ⟨n1, n2⟩ := H2.ne 0 1 (by decide) rfl rfl
  refine (K1.out _ (H2.up3.read hB)).mono ?_
  rintro e w' ⟨rfl, rfl⟩
  go_wp2_with fail
  refine (K3.out trivial _ _ H2.up2).mono ?_
  rintro e w1 ⟨rfl, rfl, H3⟩
  clear r0 r1 r2 r3 r4 r5 r6 rf c0 c1 c2 cf rl cl n1 n2
  obtain ⟨r0, r1, r2, r3, r4, r5, r6, rf⟩ := box7 (H3.at 1 rfl)
  obtain ⟨c0, c1, c2, cf⟩ := pew_cells (H3.at 2 rfl)
  have rl := lt_of_block (H3.at 1 rfl)
  have cl := lt_of_block (H3.at 2 rfl)
  obtain ⟨n1, n2⟩ := H3.ne 1 2 (by decide) rfl rfl
  go_wp2_with fail
  refine bodyPost_ret (v := .tuple #[.agg #[.bool y1, .bool y2, .bool y3, .int .i64 y4, .int .i64 zg, .int .i64 zc, .int .i64 zv], .int .i64 0]) (by simp [results, Tryz.results115, go_sem, r0, r1, r2, r3, r4, r5, r6, rl, n1, n2]) rfl ⟨rfl, SL.tl (A := any r) ?_⟩
  have HE := H3.drop2.up1.toAny
  repeat (first | with_reducible refine SL.scr ?_ _ _ | with_reducible refine SL.allocd ?_ _ | with_reducible exact HE)
set_option maxRecDepth 100000 in
set_option maxHeartbeats 1000000 in
theorem r_try {B : Piece} {b : Option Addr} {cb m n : Nat} (c : CaseM) (hM : M.length = gs.length) (hm : m = gs.length) (hB : Reader B 1 b m (pcs gs)) (hI : AllInv n M) (hn : n ≤ 1000000) (H : SL w (RsP gs M :: B :: F)) :
  Calls Tryz.prog 126 #[c.agg, .slice b m cb] w fun e w' => e = .returned (.tuple #[(tryF (oks gs) M c).1.1.agg, .int .i64 (tryF (oks gs) M c).1.2]) ∧ SL w' (RsP gs (tryF (oks gs) M c).2 :: B :: F) := by
 subst hm
 have k1 := fun (w' : World) (h : Rd w' 1 b gs.length (pcs gs)) => r_named (cap := cb) c.chan rfl h
 obtain ⟨R, hR⟩ : ∃ R, tryF (oks gs) M c = R := ⟨_, rfl⟩
 rw [hR]
 obtain ⟨⟨⟨y1, y2, y3, y4, ⟨zg, zc, zv⟩⟩, ye⟩, y⟩ := R
 obtain ⟨cs, cc, cv⟩ := c
 unfold GotM.agg CaseM.agg
 unfold tryF at hR
 dsimp only at k1 hR ⊢
 rcases nm_pos gs cc with ⟨h1, h2⟩ | ⟨i, g, h1, h2, h3, h4⟩
 ·rw [h2] at k1
  rw [h1] at hR
  unfold adr at k1
  simp only [Option.map, gzero, wzero, Prod.mk.injEq, GotM.mk.injEq, Wtr.mk.injEq] at k1 hR
  obtain ⟨⟨⟨rfl, rfl, rfl, rfl, rfl, rfl, rfl⟩, rfl⟩, rfl⟩ := hR
  have K1 := Lib.hid k1
  have HMM := Lib.hid hM
  clear k1 hM hI h1 h2
  go_enter Tryz.func126, Tryz.ntmps126
  go_wp2_with fail
  have H2 := (H.alloc (.cells #[.bool cs, .int .i64 cc, .int .i64 cv] 98)).alloc (.cells #[.bool false, .bool false, .bool false, .int .i64 0, .int .i64 0, .int .i64 0, .int .i64 0] 185)
  rw [size_alloc] at H2
  obtain ⟨bc, hbc⟩ : ∃ b, w.heap.size = b := ⟨_, rfl⟩
  obtain ⟨r, hr⟩ : ∃ b, bc + 1 = b := ⟨_, rfl⟩
  obtain ⟨W, hW⟩ : ∃ W, (w.alloc (.cells #[.bool cs, .int .i64 cc, .int .i64 cv] 98)).alloc (.cells #[.bool false, .bool false, .bool false, .int .i64 0, .int .i64 0, .int .i64 0, .int .i64 0] 185) = W := ⟨_, rfl⟩
  rw [hbc, hr, hW] at H2
  simp only [hW, hbc, hr]
  clear hbc hr hW
  obtain ⟨r0, r1, r2, r3, r4, r5, r6, rf⟩ := box7 (H2.at 0 rfl)
  obtain ⟨c0, c1, c2, cf⟩ := pew_cells (H2.at 1 rfl)
  have rl := lt_of_block (H2.at 0 rfl)
  have cl := lt_of_block (H2.at 1 rfl)
  obtain ⟨n1, n2⟩ := H2.ne 0 1 (by decide) rfl rfl
  refine (K1.out _ (H2.up3.read hB)).mono ?_
  rintro e w' ⟨rfl, rfl⟩
  go_wp2_with fail
  refine bodyPost_ret (v := .tuple #[.agg #[.bool false, .bool false, .bool false, .int .i64 0, .int .i64 0, .int .i64 0, .int .i64 0], .int .i64 0]) (by simp [results, Tryz.results126, go_sem, r0, r1, r2, r3, r4, r5, r6, rl, n1, n2]) rfl ⟨rfl, SL.tl (A := any r) ?_⟩
  have HE := H2.drop1.toAny
  repeat (first | with_reducible refine SL.scr ?_ _ _ | with_reducible refine SL.allocd ?_ _ | with_reducible exact HE)
 ·have hi : i < M.length := by rw [hM]; exact (List.getElem?_eq_some_iff.1 h3).1
  have hx := hI.get hi
  rw [h2] at k1
  rw [h1] at hR
  unfold adr at k1
  simp only [Option.map] at k1
  have K1 := Lib.hid k1
  have TK := Lib.hid (fun (w' : World) (F' : List Piece) (H : SL w' (RsP gs M :: F')) => take_rs hM h3 H)
  have PT := Lib.hid (fun (w' : World) (F' : List Piece) (y : PipeM) (H : SL w' (RefP g y :: all ((List.zipWith (pieceO RefP) gs M).set i emp) :: F')) => put_rs hM h3 H)
  cases cs with
  | true =>
   simp only [if_true, Prod.mk.injEq] at hR
   obtain ⟨hR1, hR2⟩ := hR
   have k2 := fun (w' : World) (F' : List Piece) (H : SL w' (RefP g (M.getD i (emptyM 0)) :: F')) => r_send cv (by have := hx.rcv.1; omega) (by have := hx.buf; have := hx.size; omega) (hx.cnt (by omega)) H
   rw [hR1] at k2
   obtain ⟨y', hy'⟩ : ∃ y', (sendF (M.getD i (emptyM 0)) cv).2 = y' := ⟨_, rfl⟩
   rw [hy'] at k2 hR2
   subst hR2
   unfold GotM.agg at k2
   dsimp only at k2
   have K2 := Lib.hid k2
   have HMM := Lib.hid hM
   clear k1 k2 hM hI h1 h2 h3 h4 hx hy' hR1
   go_enter Tryz.func126, Tryz.ntmps126
   go_wp2_with fail
   have H2 := (H.alloc (.cells #[.bool true, .int .i64 cc, .int .i64 cv] 98)).alloc (.cells #[.bool false, .bool false, .bool false, .int .i64 0, .int .i64 0, .int .i64 0, .int .i64 0] 185)
   rw [size_alloc] at H2
   obtain ⟨bc, hbc⟩ : ∃ b, w.heap.size = b := ⟨_, rfl⟩
   obtain ⟨r, hr⟩ : ∃ b, bc + 1 = b := ⟨_, rfl⟩
   obtain ⟨W, hW⟩ : ∃ W, (w.alloc (.cells #[.bool true, .int .i64 cc, .int .i64 cv] 98)).alloc (.cells #[.bool false, .bool false, .bool false, .int .i64 0, .int .i64 0, .int .i64 0, .int .i64 0] 185) = W := ⟨_, rfl⟩
   rw [hbc, hr, hW] at H2
   simp only [hW, hbc, hr]
   clear hbc hr hW
   obtain ⟨r0, r1, r2, r3, r4, r5, r6, rf⟩ := box7 (H2.at 0 rfl)
   obtain ⟨c0, c1, c2, cf⟩ := pew_cells (H2.at 1 rfl)
   have rl := lt_of_block (H2.at 0 rfl)
   have cl := lt_of_block (H2.at 1 rfl)
   obtain ⟨n1, n2⟩ := H2.ne 0 1 (by decide) rfl rfl
   refine (K1.out _ (H2.up3.read hB)).mono ?_
   rintro e w' ⟨rfl, rfl⟩
   go_wp2_with fail
   refine (K2.out _ _ (TK.out _ _ H2.up2)).mono ?_
   rintro e w1 ⟨rfl, H3'⟩
   have H3 := PT.out _ _ _ H3'
   clear r0 r1 r2 r3 r4 r5 r6 rf c0 c1 c2 cf rl cl n1 n2
   obtain ⟨r0, r1, r2, r3, r4, r5, r6, rf⟩ := box7 (H3.at 1 rfl)
   obtain ⟨c0, c1, c2, cf⟩ := pew_cells (H3.at 2 rfl)
   have rl := lt_of_block (H3.at 1 rfl)
   have cl := lt_of_block (H3.at 2 rfl)
   obtain ⟨n1, n2⟩ := H3.ne 1 2 (by decide) rfl rfl
   go_wp2_with fail
   refine bodyPost_ret (v := .tuple #[.agg #[.bool y1, .bool y2, .bool y3, .int .i64 y4, .int .i64 zg, .int .i64 zc, .int .i64 zv], .int .i64 ye]) (by simp [results, Tryz.results126, go_sem, r0, r1, r2, r3, r4, r5, r6, rl, n1, n2]) rfl ⟨rfl, SL.tl (A := any r) ?_⟩
   have HE := H3.drop2.up1.toAny
   repeat (first | with_reducible refine SL.scr ?_ _ _ | with_reducible refine SL.allocd ?_ _ | with_reducible exact HE)

  | false =>
   simp only [Bool.false_eq_true, if_false, Prod.mk.injEq] at hR
   obtain ⟨⟨hR1, rfl⟩, hR2⟩ := hR
   have k2 := fun (w' : World) (F' : List Piece) (H : SL w' (RefP g (M.getD i (emptyM 0)) :: F')) => r_recv (by have := hx.snd.1; omega) (by have := hx.buf; have := hx.size; omega) (hx.cnt (by omega)) H
   rw [hR1] at k2
   obtain ⟨y', hy'⟩ : ∃ y', (recvF (M.getD i (emptyM 0))).2 = y' := ⟨_, rfl⟩
   rw [hy'] at k2 hR2
   subst hR2
   unfold GotM.agg at k2
   dsimp only at k2
   have K2 := Lib.hid k2
   have HMM := Lib.hid hM
   clear k1 k2 hM hI h1 h2 h3 h4 hx hy' hR1
   go_enter Tryz.func126, Tryz.ntmps126
   go_wp2_with fail
   have H2 := (H.alloc (.cells #[.bool false, .int .i64 cc, .int .i64 cv] 98)).alloc (.cells #[.bool false, .bool false, .bool false, .int .i64 0, .int .i64 0, .int .i64 0, .int .i64 0] 185)
   rw [size_alloc] at H2
   obtain ⟨bc, hbc⟩ : ∃ b, w.heap.size = b := ⟨_, rfl⟩
   obtain ⟨r, hr⟩ : ∃ b, bc + 1 = b := ⟨_, rfl⟩
   obtain ⟨W, hW⟩ : ∃ W, (w.alloc (.cells #[.bool false, .int .i64 cc, .int .i64 cv] 98)).alloc (.cells #[.bool false, .bool false, .bool false, .int .i64 0, .int .i64 0, .int .i64 0, .int .i64 0] 185) = W := ⟨_, rfl⟩
   rw [hbc, hr, hW] at H2
   simp only [hW, hbc, hr]
   clear hbc hr hW
   obtain ⟨r0, r1, r2, r3, r4, r5, r6, rf⟩ := box7 (H2.at 0 rfl)
   obtain ⟨c0, c1, c2, cf⟩ := pew_cells (H2.at 1 rfl)
   have rl := lt_of_block (H2.at 0 rfl)
   have cl := lt_of_block (H2.at 1 rfl)
   obtain ⟨n1, n2⟩ := H2.ne 0 1 (by decide) rfl rfl
   refine (K1.out _ (H2.up3.read hB)).mono ?_
   rintro e w' ⟨rfl, rfl⟩
   go_wp2_with fail
   refine (K2.out _ _ (TK.out _ _ H2.up2)).mono ?_
   rintro e w1 ⟨rfl, H3'⟩
   have H3 := PT.out _ _ _ H3'
   clear r0 r1 r2 r3 r4 r5 r6 rf c0 c1 c2 cf rl cl n1 n2
   obtain ⟨r0, r1, r2, r3, r4, r5, r6, rf⟩ := box7 (H3.at 1 rfl)
   obtain ⟨c0, c1, c2, cf⟩ := pew_cells (H3.at 2 rfl)
   have rl := lt_of_block (H3.at 1 rfl)
   have cl := lt_of_block (H3.at 2 rfl)
   obtain ⟨n1, n2⟩ := H3.ne 1 2 (by decide) rfl rfl
   go_wp2_with fail
   refine bodyPost_ret (v := .tuple #[.agg #[.bool y1, .bool y2, .bool y3, .int .i64 y4, .int .i64 zg, .int .i64 zc, .int .i64 zv], .int .i64 0]) (by simp [results, Tryz.results126, go_sem, r0, r1, r2, r3, r4, r5, r6, rl, n1, n2]) rfl ⟨rfl, SL.tl (A := any r) ?_⟩
   have HE := H3.drop2.up1.toAny
   repeat (first | with_reducible refine SL.scr ?_ _ _ | with_reducible refine SL.allocd ?_ _ | with_reducible exact HE)
end
end Go.Proofs.YtcgajljbahbhdaaGreat
namespace Go.Proofs.YtcgajljbahbhdaaGreat
set_option linter.unusedVariables false
set_option linter.unusedSimpArgs false
open Go.RowKit
section
variable {w : World} {F : List Piece} {gs : List (Option Nat)} {M : List PipeM}
/-- The cell of a slice of pipes. -/
theorem pcs_at {a : Option Addr} {n : Nat} (h : Rd w 1 a n (pcs gs)) (k : Nat) (hk : k < gs.length) : ∃ b off, a = some ⟨b, off, none⟩ ∧ w.cell? ⟨b, off + k, none⟩ = some (adr gs[k]) := by
 have hl := h.1
 unfold pcs at hl
 rw [List.length_map] at hl
 obtain ⟨b, off, ha, hc⟩ := h.2.2 (by omega)
 exact ⟨b, off, ha, hc k _ (by unfold pcs; rw [List.getElem?_map, List.getElem?_eq_getElem hk]; rfl)⟩
theorem oks_at {k : Nat} (hk : k < gs.length) : (oks gs).getD k false = gs[k].isSome := by
 unfold oks
 rw [List.getD_eq_getElem?_getD, List.getElem?_map, List.getElem?_eq_getElem hk]
 rfl
/-- One pipe, or none, drops a goroutine. -/
theorem ps_drop {n : Nat} (hM : M.length = gs.length) (hI : AllInv n M) (g : Int) (k : Nat) (hk : k < gs.length) (H : SL w (PsP gs (leaveM g M k) :: F)) :
  Calls Tryz.prog 150 #[adr gs[k], .int .i64 g] w fun e w' => e = .returned (.int .i64 (if (oks gs).getD k false then dropN (M.getD k (emptyM 0)) g else 0)) ∧ SL w' (PsP gs (leaveM g M (k + 1)) :: F) := by
 have hkM : k < M.length := by omega
 have hat := leaveM_at g M k hkM
 rw [oks_at hk, ← leaveM_succ g M k hkM]
 rcases hg : gs[k] with _ | a
 ·refine (pipe_drop_nil g w).mono ?_
  rintro e w' ⟨rfl, f⟩
  refine ⟨rfl, ?_⟩
  have e0 : gs[k]? = some none := by rw [List.getElem?_eq_getElem hk, hg]
  unfold PsP
  rw [zip_none e0]
  exact H.later f
 ·have e0 : gs[k]? = some (some a) := by rw [List.getElem?_eq_getElem hk, hg]
  have H1 := all_take (P := PipeP) e0 hat H
  have hx : Inv9 n M[k] := hI _ (List.getElem_mem hkM)
  refine (sl_drop g hx H1).mono ?_
  rintro e w' ⟨rfl, H2⟩
  refine ⟨?_, all_put (P := PipeP) e0 hat H2⟩
  rw [List.getD_eq_getElem?_getD, List.getElem?_eq_getElem hkM]
  rfl
theorem rs_drop {n : Nat} (hM : M.length = gs.length) (hI : AllInv n M) (g : Int) (k a : Nat) (hk : k < gs.length) (hg : gs[k] = some a) (H : SL w (RsP gs (leaveM g M k) :: F)) :
  Calls Tryz.prog 142 #[.pointer (some ⟨a, 0, none⟩), .int .i64 g] w fun e w' => e = .returned (.int .i64 (dropN (M.getD k (emptyM 0)) g)) ∧ SL w' (RsP gs (leaveM g M (k + 1)) :: F) := by
 have hkM : k < M.length := by omega
 have hat := leaveM_at g M k hkM
 rw [← leaveM_succ g M k hkM]
 have e0 : gs[k]? = some (some a) := by rw [List.getElem?_eq_getElem hk, hg]
 have H1 := all_take (P := RefP) e0 hat H
 have hx : Inv9 n M[k] := hI _ (List.getElem_mem hkM)
 refine (r_drop g hx.snd.1 hx.rcv.1 H1).mono ?_
 rintro e w' ⟨rfl, H2⟩
 refine ⟨?_, all_put (P := RefP) e0 hat H2⟩
 rw [List.getD_eq_getElem?_getD, List.getElem?_eq_getElem hkM]
 rfl
theorem rs_skip (hM : M.length = gs.length) (g : Int) (k : Nat) (hk : k < gs.length) (hg : gs[k] = none) (H : SL w (RsP gs (leaveM g M k) :: F)) : SL w (RsP gs (leaveM g M (k + 1)) :: F) := by
 rw [← leaveM_succ g M k (by omega)]
 have e0 : gs[k]? = some none := by rw [List.getElem?_eq_getElem hk, hg]
 unfold RsP
 rw [zip_none e0]
 exact H
set_option maxRecDepth 100000 in
set_option maxHeartbeats 1000000 in
theorem f_leave {B : Piece} {b : Option Addr} {cb m n : Nat} (g : Int) (hM : M.length = gs.length) (hm : m = gs.length) (hB : Reader B 1 b m (pcs gs)) (hI : AllInv n M) (hl : gs.length ≤ 1000000) (H : SL w (PsP gs M :: B :: F)) :
  Calls Tryz.prog 135 #[.int .i64 g, .slice b m cb] w fun e w' => e = .returned (.int .i64 (leaveF (oks gs) g M).1) ∧ SL w' (PsP gs (leaveF (oks gs) g M).2 :: B :: F) := by
 subst hm
 have HM := Lib.hid hM
 have HI := Lib.hid hI
 have hbd := fun k (hk : k ≤ gs.length) => leaveN_bd (oks gs) g hI k (by omega)
 have HBD := Lib.hid hbd
 clear hM hI hbd
 go_enter Tryz.func135, Tryz.ntmps135
 go_wp2_with fail
 go_loopw [5, 9] (fun s i wr => ∃ k : Nat, k ≤ gs.length ∧ i = .int .i64 k ∧ s = .int .i64 (leaveN (oks gs) g M k) ∧ SL wr (PsP gs (leaveM g M k) :: B :: F)) (fun _ i _ => gs.length - (intOf i).toNat)
 case atStart => exact ⟨0, Nat.zero_le _, rfl, rfl, H⟩
 case round =>
  obtain ⟨k, hk, rfl, rfl, HR⟩ := hrel
  have bd := HBD.out k hk
  by_cases hlt : k < gs.length
  ·obtain ⟨b1, o1, e1, d0⟩ := pcs_at (HR.up1.read hB) k hlt
   subst e1
   have bd2 := HBD.out (k + 1) hlt
   have hs : leaveN (oks gs) g M (k + 1) = leaveN (oks gs) g M k + (if (oks gs).getD k false then dropN (M.getD k (emptyM 0)) g else 0) := rfl
   have k1 := fun (w' : World) (F' : List Piece) (H : SL w' (PsP gs (leaveM g M k) :: F')) => ps_drop HM.out HI.out g k hlt H
   obtain ⟨dn, hdn⟩ : ∃ d, (if (oks gs).getD k false then dropN (M.getD k (emptyM 0)) g else 0) = d := ⟨_, rfl⟩
   rw [hdn] at k1 hs
   obtain ⟨ls, hls⟩ : ∃ d, leaveN (oks gs) g M k = d := ⟨_, rfl⟩
   obtain ⟨ls2, hls2⟩ : ∃ d, leaveN (oks gs) g M (k + 1) = d := ⟨_, rfl⟩
   rw [hls, hls2] at hs
   rw [hls2] at bd2
   rw [hls] at bd ⊢
   unfold adr at k1 d0
   obtain ⟨q, hq⟩ : ∃ q, gs[k].map (fun g => (⟨g, 0, none⟩ : Addr)) = q := ⟨_, rfl⟩
   rw [hq] at k1 d0
   have K1 := Lib.hid k1
   have HS := Lib.hid hs
   have HL2 := Lib.hid hls2
   have b3 : 0 ≤ ls + dn := by omega
   have b4 : ls + dn ≤ 4096000000000 := by omega
   have b5 : 0 ≤ ls := by omega
   have b6 : ls ≤ 4096000000000 := by omega
   clear k1 hs hls hls2 hq hdn
   have dl : (k : Int) < (gs.length : Int) := by omega
   go_wp2_with fail
   refine (K1.out _ _ HR).mono ?_
   rintro e w1 ⟨rfl, H1⟩
   go_wp2_with fail
   go_roundw
   case rel => exact ⟨k + 1, by omega, by go_num, by rw [HL2.out, HS.out], H1⟩
   case measure => simp [intOf]; omega
  ·have hkn : k = gs.length := by omega
   have HK := Lib.hid hkn
   clear hkn
   obtain ⟨ls, hls⟩ : ∃ d, leaveN (oks gs) g M k = d := ⟨_, rfl⟩
   rw [hls] at bd ⊢
   have HLS := Lib.hid hls
   clear hls
   go_wp2_with fail
   go_ret
   have hkn := HK.out
   refine ⟨ret_int ?_, ?_⟩
   ·unfold leaveF
    rw [HM.out, ← hkn]
    exact HLS.out.symm
   ·unfold leaveF
    rw [← leaveM_all, HM.out, ← hkn]
    exact HR
set_option maxRecDepth 100000 in
set_option maxHeartbeats 1000000 in
theorem r_leave {B : Piece} {b : Option Addr} {cb m n : Nat} (g : Int) (hM : M.length = gs.length) (hm : m = gs.length) (hB : Reader B 1 b m (pcs gs)) (hI : AllInv n M) (hl : gs.length ≤ 1000000) (H : SL w (RsP gs M :: B :: F)) :
  Calls Tryz.prog 129 #[.int .i64 g, .slice b m cb] w fun e w' => e = .returned (.int .i64 (leaveF (oks gs) g M).1) ∧ SL w' (RsP gs (leaveF (oks gs) g M).2 :: B :: F) := by
 subst hm
 have HM := Lib.hid hM
 have HI := Lib.hid hI
 have hbd := fun k (hk : k ≤ gs.length) => leaveN_bd (oks gs) g hI k (by omega)
 have HBD := Lib.hid hbd
 clear hM hI hbd
 go_enter Tryz.func129, Tryz.ntmps129
 go_wp2_with fail
 go_loopw [5, 10] (fun s i wr => ∃ k : Nat, k ≤ gs.length ∧ i = .int .i64 k ∧ s = .int .i64 (leaveN (oks gs) g M k) ∧ SL wr (RsP gs (leaveM g M k) :: B :: F)) (fun _ i _ => gs.length - (intOf i).toNat)
 case atStart => exact ⟨0, Nat.zero_le _, rfl, rfl, H⟩
 case round =>
  obtain ⟨k, hk, rfl, rfl, HR⟩ := hrel
  have bd := HBD.out k hk
  by_cases hlt : k < gs.length
  ·obtain ⟨b1, o1, e1, d0⟩ := pcs_at (HR.up1.read hB) k hlt
   subst e1
   have bd2 := HBD.out (k + 1) hlt
   have hs : leaveN (oks gs) g M (k + 1) = leaveN (oks gs) g M k + (if (oks gs).getD k false then dropN (M.getD k (emptyM 0)) g else 0) := rfl
   rw [oks_at hlt] at hs
   obtain ⟨ls, hls⟩ : ∃ d, leaveN (oks gs) g M k = d := ⟨_, rfl⟩
   obtain ⟨ls2, hls2⟩ : ∃ d, leaveN (oks gs) g M (k + 1) = d := ⟨_, rfl⟩
   rw [hls, hls2] at hs
   rw [hls2] at bd2
   rw [hls] at bd ⊢
   have HL2 := Lib.hid hls2
   have b5 : 0 ≤ ls := by omega
   have b6 : ls ≤ 4096000000000 := by omega
   have dl : (k : Int) < (gs.length : Int) := by omega
   rcases hg : gs[k] with _ | a
   ·rw [hg] at d0 hs
    simp only [Option.isSome_none, Bool.false_eq_true, if_false, Int.add_zero] at hs
    unfold adr at d0
    dsimp only [Option.map] at d0
    have HQ := rs_skip HM.out g k hlt hg HR
    have HS := Lib.hid hs
    clear hs hls hls2 hg
    go_wp2_with fail
    go_roundw
    case rel => exact ⟨k + 1, by omega, by go_num, by rw [HL2.out, HS.out], HQ⟩
    case measure => simp [intOf]; omega
   ·rw [hg] at d0 hs
    simp only [Option.isSome_some, if_true] at hs
    unfold adr at d0
    dsimp only [Option.map] at d0
    have k1 := fun (w' : World) (F' : List Piece) (H : SL w' (RsP gs (leaveM g M k) :: F')) => rs_drop HM.out HI.out g k a hlt hg H
    obtain ⟨dn, hdn⟩ : ∃ d, dropN (M.getD k (emptyM 0)) g = d := ⟨_, rfl⟩
    rw [hdn] at k1 hs
    have K1 := Lib.hid k1
    have HS := Lib.hid hs
    have b3 : 0 ≤ ls + dn := by omega
    have b4 : ls + dn ≤ 4096000000000 := by omega
    clear k1 hs hls hls2 hg hdn
    go_wp2_with fail
    refine (K1.out _ _ HR).mono ?_
    rintro e w1 ⟨rfl, H1⟩
    go_wp2_with fail
    go_roundw
    case rel => exact ⟨k + 1, by omega, by go_num, by rw [HL2.out, HS.out], H1⟩
    case measure => simp [intOf]; omega
  ·have hkn : k = gs.length := by omega
   have HK := Lib.hid hkn
   clear hkn
   obtain ⟨ls, hls⟩ : ∃ d, leaveN (oks gs) g M k = d := ⟨_, rfl⟩
   rw [hls] at bd ⊢
   have HLS := Lib.hid hls
   clear hls
   go_wp2_with fail
   go_ret
   have hkn := HK.out
   refine ⟨ret_int ?_, ?_⟩
   ·unfold leaveF
    rw [HM.out, ← hkn]
    exact HLS.out.symm
   ·unfold leaveF
    rw [← leaveM_all, HM.out, ← hkn]
    exact HR
end
end Go.Proofs.YtcgajljbahbhdaaGreat
namespace Go.Proofs.YtcgajljbahbhdaaGreat
set_option linter.unusedVariables false
set_option linter.unusedSimpArgs false
open Go.RowKit
section
variable {w : World} {F : List Piece} {gs : List (Option Nat)} {M : List PipeM}
theorem parkK_succ (ok : List Bool) (g : Int) (L : List CaseM) (M : List PipeM) (k : Nat) (hk : k < L.length) : parkK ok g L M (k + 1) = (match posF ok L[k].chan with
  | none => parkK ok g L M k
  | some i => ((parkK ok g L M k).1 + (if (waitF ((parkK ok g L M k).2.getD i (emptyM 0)) L[k].send ⟨g, k, L[k].value⟩).1 = 0 then 1 else 0), (parkK ok g L M k).2.set i (waitF ((parkK ok g L M k).2.getD i (emptyM 0)) L[k].send ⟨g, k, L[k].value⟩).2)) := by
 have hgd : L.getD k ⟨false, 0, 0⟩ = L[k] := by rw [List.getD_eq_getElem?_getD, List.getElem?_eq_getElem hk]; rfl
 rw [← hgd]
 rfl
theorem ps_wait {n i g : Nat} {s : Bool} {m : Wtr} (hM : M.length = gs.length) (h3 : gs[i]? = some (some g)) (hx : Inv9 n (M.getD i (emptyM 0))) (H : SL w (PsP gs M :: F)) :
  Calls Tryz.prog 117 #[.pointer (some ⟨g, 0, none⟩), .bool s, m.agg] w fun e w' => e = .returned (.int .i64 (waitF (M.getD i (emptyM 0)) s m).1) ∧ SL w' (PsP gs (M.set i (waitF (M.getD i (emptyM 0)) s m).2) :: F) := by
 refine (sl_wait s m hx.snd.1 hx.rcv.1 (take_ps hM h3 H)).mono ?_
 rintro e w' ⟨rfl, H1⟩
 exact ⟨rfl, put_ps hM h3 H1⟩
theorem rs_wait {n i g : Nat} {s : Bool} {m : Wtr} (hM : M.length = gs.length) (h3 : gs[i]? = some (some g)) (hx : Inv9 n (M.getD i (emptyM 0))) (H : SL w (RsP gs M :: F)) :
  Calls Tryz.prog 97 #[.pointer (some ⟨g, 0, none⟩), .bool s, m.agg] w fun e w' => e = .returned (.int .i64 (waitF (M.getD i (emptyM 0)) s m).1) ∧ SL w' (RsP gs (M.set i (waitF (M.getD i (emptyM 0)) s m).2) :: F) := by
 rw [wait_eq hx]
 refine (r_wait s m hx.snd.1 hx.rcv.1 (take_rs hM h3 H)).mono ?_
 rintro e w' ⟨rfl, H1⟩
 exact ⟨rfl, put_rs hM h3 H1⟩
set_option maxRecDepth 100000 in
set_option maxHeartbeats 1000000 in
theorem f_park {A B : Piece} {a b : Option Addr} {ca cb n m k0 : Nat} {L : List CaseM} (g : Int) (hM : M.length = gs.length) (hn : n = L.length) (hm : m = gs.length) (hA : Reader A 3 a n (L.flatMap CaseM.cells)) (hB : Reader B 1 b m (pcs gs)) (hI : AllInv k0 M) (hL : L.length ≤ 100000) (H : SL w (PsP gs M :: A :: B :: F)) :
  Calls Tryz.prog 122 #[.int .i64 g, .slice a n ca, .slice b m cb] w fun e w' => e = .returned (.tuple #[.int .i64 (parkF (oks gs) g L M).1.1, .int .i64 (parkF (oks gs) g L M).1.2]) ∧ SL w' (PsP gs (parkF (oks gs) g L M).2 :: A :: B :: F) := by
 subst hn hm
 have hok : M.length = (oks gs).length := by unfold oks; rw [List.length_map]; exact hM
 have HP := Lib.hid (fun k => AllInv.park hI hok g L k)
 have HML := Lib.hid (fun k => (parkK_len (oks gs) g L M k).trans hM)
 have HBD := Lib.hid (fun k => parkK_bd (oks gs) g L M k)
 have KR := Lib.hid (f_ready (ca := ca) (cb := cb) hM rfl rfl hA hB hL H)
 obtain ⟨R, hR⟩ : ∃ R, parkF (oks gs) g L M = R := ⟨_, rfl⟩
 rw [hR]
 obtain ⟨⟨rn, re⟩, rM⟩ := R
 unfold parkF at hR
 clear hM hok hI
 by_cases hg : g < 0
 ·rw [if_pos (.inl hg)] at hR
  simp only [Prod.mk.injEq] at hR
  obtain ⟨⟨rfl, rfl⟩, rfl⟩ := hR
  go_enter Tryz.func122, Tryz.ntmps122
  go_wp2_with fail
  go_ret2
  exact ⟨rfl, H⟩
 ·by_cases hl : 4 < L.length
  ·rw [if_pos (.inr hl)] at hR
   simp only [Prod.mk.injEq] at hR
   obtain ⟨⟨rfl, rfl⟩, rfl⟩ := hR
   have d1 : (4 : Int) < (L.length : Int) := by omega
   have d2 : decide ((4 : Int) < (L.length : Int)) = true := by simp; omega
   go_enter Tryz.func122, Tryz.ntmps122
   go_wp2_with fail
   go_ret2
   exact ⟨rfl, H⟩
  ·rw [if_neg (by omega)] at hR
   have d1 : ¬ (4 : Int) < (L.length : Int) := by omega
   have d2 : decide ((4 : Int) < (L.length : Int)) = false := by simp; omega
   obtain ⟨nr, hnr⟩ : ∃ n, (readyL (oks gs) M L).length = n := ⟨_, rfl⟩
   rw [hnr] at hR KR
   have HNR := Lib.hid hnr
   clear hnr
   by_cases h0 : 0 < nr
   ·rw [if_pos h0] at hR
    simp only [Prod.mk.injEq] at hR
    obtain ⟨⟨rfl, rfl⟩, rfl⟩ := hR
    have q1 : decide (0 < (nr : Int)) = true := by simpa using h0
    have q2 : decide (0 < nr) = true := by simpa using h0
    go_enter Tryz.func122, Tryz.ntmps122
    go_wp2_with fail
    refine KR.out.mono ?_
    rintro e w1 ⟨v, rfl, H1⟩
    obtain ⟨va, vc, hv, hvc, hvm, _⟩ := H1.slc
    subst hv
    unfold maxLen at hvm
    go_wp2_with fail
    go_ret2
    exact ⟨rfl, H1.tl⟩
   ·rw [if_neg h0] at hR
    simp only [Prod.mk.injEq] at hR
    obtain ⟨⟨hR1, rfl⟩, hR2⟩ := hR
    have HR1 := Lib.hid hR1
    have HR2 := Lib.hid hR2
    have q1 : decide (0 < (nr : Int)) = false := by simpa using h0
    have q2 : decide (0 < nr) = false := by simpa using h0
    clear hR1 hR2
    go_enter Tryz.func122, Tryz.ntmps122
    go_wp2_with fail
    refine KR.out.mono ?_
    rintro e w1 ⟨v, rfl, H1⟩
    obtain ⟨va, vc, hv, hvc, hvm, _⟩ := H1.slc
    subst hv
    unfold maxLen at hvm
    have H1' := H1.tl
    clear H1 hvc
    go_wp2_with fail
    go_loopw [8, 26] (fun s i wr => ∃ k : Nat, k ≤ L.length ∧ i = .int .i64 k ∧ s = .int .i64 (parkK (oks gs) g L M k).1 ∧ SL wr (PsP gs (parkK (oks gs) g L M k).2 :: A :: B :: F)) (fun _ i _ => L.length - (intOf i).toNat)
    case atStart => exact ⟨0, Nat.zero_le _, rfl, rfl, H1'⟩
    case round =>
     obtain ⟨k, hk, rfl, rfl, HR⟩ := hrel
     have bd := HBD.out k
     by_cases hlt : k < L.length
     ·obtain ⟨b1, o1, e1, d3, d4, d5⟩ := case_at (HR.up1.read hA) k hlt
      subst e1
      have hs := parkK_succ (oks gs) g L M k hlt
      obtain ⟨c, hc⟩ : ∃ c, L[k] = c := ⟨_, rfl⟩
      rw [hc] at d3 d4 d5 hs
      clear hc
      obtain ⟨cs, cc, cv⟩ := c
      dsimp only at d3 d4 d5 hs
      have hPk := HP.out k
      have hMk := HML.out k
      obtain ⟨⟨nk, Mk⟩, hMM⟩ : ∃ r, parkK (oks gs) g L M k = r := ⟨_, rfl⟩
      obtain ⟨r2, hr2⟩ : ∃ r, parkK (oks gs) g L M (k + 1) = r := ⟨_, rfl⟩
      rw [hMM] at HR hs bd hPk hMk
      rw [hMM]
      rw [hr2] at hs
      dsimp only at HR hs bd hPk hMk ⊢
      have HR2' := Lib.hid hr2
      have k1 := fun (w' : World) (h : Rd w' 1 b gs.length (pcs gs)) => f_named (cap := cb) cc rfl h
      have HX := (HR.alloc (.cells #[.bool cs, .int .i64 cc, .int .i64 cv] 98)).up1
      have dl : (k : Int) < (L.length : Int) := by omega
      have dk : (0 : Int) ≤ (k : Int) := by omega
      rcases nm_pos gs cc with ⟨h1, h2⟩ | ⟨i, ga, h1, h2, h3, h4⟩
      ·rw [h1] at hs
       rw [h2] at k1
       unfold adr at k1
       dsimp only [Option.map] at k1 hs
       have K1 := Lib.hid k1
       have HS := Lib.hid hs
       clear k1 hs h1 h2 hr2 hMM hPk hMk
       go_wp2_with fail
       refine (K1.out _ (HX.up3.read hB)).mono ?_
       rintro e w' ⟨rfl, rfl⟩
       go_wp2_with fail
       go_roundw
       case rel => exact ⟨k + 1, by omega, by go_num, by rw [HR2'.out, HS.out], by rw [HR2'.out, HS.out]; exact HX.drop1⟩
       case measure => simp [intOf]; omega
      ·rw [h1] at hs
       rw [h2] at k1
       unfold adr at k1
       dsimp only [Option.map] at k1 hs
       have hi : i < Mk.length := by rw [hMk]; exact (List.getElem?_eq_some_iff.1 h3).1
       have k2 := fun (w' : World) (F' : List Piece) (H : SL w' (PsP gs Mk :: F')) => ps_wait (s := cs) (m := ⟨g, k, cv⟩) hMk h3 (hPk.get hi) H
       obtain ⟨⟨we, wy⟩, hwe⟩ : ∃ r, waitF (Mk.getD i (emptyM 0)) cs ⟨g, k, cv⟩ = r := ⟨_, rfl⟩
       rw [hwe] at k2 hs
       unfold Wtr.agg at k2
       dsimp only at k2 hs
       have K1 := Lib.hid k1
       have K2 := Lib.hid k2
       have HS := Lib.hid hs
       clear k1 k2 hs h1 h2 h3 h4 hr2 hMM hPk hMk hwe hi
       go_wp2_with fail
       refine (K1.out _ (HX.up3.read hB)).mono ?_
       rintro e w' ⟨rfl, rfl⟩
       go_wp2_with fail
       refine (K2.out _ _ HX).mono ?_
       rintro e w2 ⟨rfl, H2⟩
       by_cases hwz : we = 0
       ·have hs2 := HS.out
        rw [if_pos hwz] at hs2
        subst hwz
        have b3 : 0 ≤ nk + 1 := by omega
        have b4 : nk + 1 ≤ 4096000000000 := by omega
        have HS2 := Lib.hid hs2
        clear hs2 HS
        go_wp2_with fail
        go_roundw
        case rel => exact ⟨k + 1, by omega, by go_num, by rw [HR2'.out, HS2.out], by rw [HR2'.out, HS2.out]; exact H2.drop1⟩
        case measure => simp [intOf]; omega
       ·have hs2 := HS.out
        rw [if_neg hwz] at hs2
        have b3 : (we == 0) = false := by simpa using hwz
        have HS2 := Lib.hid hs2
        clear hs2 HS hwz
        go_wp2_with fail
        go_roundw
        case rel => exact ⟨k + 1, by omega, by go_num, by rw [HR2'.out, HS2.out, Int.add_zero], by rw [HR2'.out, HS2.out]; exact H2.drop1⟩
        case measure => simp [intOf]; omega
     ·have hkn : k = L.length := by omega
      have HK := Lib.hid hkn
      obtain ⟨nk, hnk⟩ : ∃ r, (parkK (oks gs) g L M k).1 = r := ⟨_, rfl⟩
      rw [hnk]
      have HNK := Lib.hid hnk
      clear hkn hnk
      go_wp2_with fail
      go_ret2
      have e1 : nk = rn := by rw [← HNK.out, HK.out]; exact HR1.out
      have e2 : (parkK (oks gs) g L M k).2 = rM := by rw [HK.out]; exact HR2.out
      rw [e1]
      rw [e2] at HR
      exact ⟨rfl, HR⟩
set_option maxRecDepth 100000 in
set_option maxHeartbeats 1000000 in
theorem r_park {A B : Piece} {a b : Option Addr} {ca cb n m k0 : Nat} {L : List CaseM} (g : Int) (hM : M.length = gs.length) (hn : n = L.length) (hm : m = gs.length) (hA : Reader A 3 a n (L.flatMap CaseM.cells)) (hB : Reader B 1 b m (pcs gs)) (hI : AllInv k0 M) (hL : L.length ≤ 100000) (H : SL w (RsP gs M :: A :: B :: F)) :
  Calls Tryz.prog 104 #[.int .i64 g, .slice a n ca, .slice b m cb] w fun e w' => e = .returned (.tuple #[.int .i64 (parkF (oks gs) g L M).1.1, .int .i64 (parkF (oks gs) g L M).1.2]) ∧ SL w' (RsP gs (parkF (oks gs) g L M).2 :: A :: B :: F) := by
 subst hn hm
 have hok : M.length = (oks gs).length := by unfold oks; rw [List.length_map]; exact hM
 have HP := Lib.hid (fun k => AllInv.park hI hok g L k)
 have HML := Lib.hid (fun k => (parkK_len (oks gs) g L M k).trans hM)
 have HBD := Lib.hid (fun k => parkK_bd (oks gs) g L M k)
 have KR := Lib.hid (r_ready10 (ca := ca) (cb := cb) hM rfl rfl hA hB hL H)
 obtain ⟨R, hR⟩ : ∃ R, parkF (oks gs) g L M = R := ⟨_, rfl⟩
 rw [hR]
 obtain ⟨⟨rn, re⟩, rM⟩ := R
 unfold parkF at hR
 clear hM hok hI
 by_cases hg : g < 0
 ·rw [if_pos (.inl hg)] at hR
  simp only [Prod.mk.injEq] at hR
  obtain ⟨⟨rfl, rfl⟩, rfl⟩ := hR
  go_enter Tryz.func104, Tryz.ntmps104
  go_wp2_with fail
  go_ret2
  exact ⟨rfl, H⟩
 ·by_cases hl : 4 < L.length
  ·rw [if_pos (.inr hl)] at hR
   simp only [Prod.mk.injEq] at hR
   obtain ⟨⟨rfl, rfl⟩, rfl⟩ := hR
   have d1 : (4 : Int) < (L.length : Int) := by omega
   have d2 : decide ((4 : Int) < (L.length : Int)) = true := by simp; omega
   go_enter Tryz.func104, Tryz.ntmps104
   go_wp2_with fail
   go_ret2
   exact ⟨rfl, H⟩
  ·rw [if_neg (by omega)] at hR
   have d1 : ¬ (4 : Int) < (L.length : Int) := by omega
   have d2 : decide ((4 : Int) < (L.length : Int)) = false := by simp; omega
   obtain ⟨nr, hnr⟩ : ∃ n, (readyL (oks gs) M L).length = n := ⟨_, rfl⟩
   rw [hnr] at hR KR
   have HNR := Lib.hid hnr
   clear hnr
   by_cases h0 : 0 < nr
   ·rw [if_pos h0] at hR
    simp only [Prod.mk.injEq] at hR
    obtain ⟨⟨rfl, rfl⟩, rfl⟩ := hR
    have q1 : decide (0 < (nr : Int)) = true := by simpa using h0
    have q2 : decide (0 < nr) = true := by simpa using h0
    go_enter Tryz.func104, Tryz.ntmps104
    go_wp2_with fail
    refine KR.out.mono ?_
    rintro e w1 ⟨v, rfl, H1⟩
    obtain ⟨va, vc, hv, hvc, hvm, _⟩ := H1.slc
    subst hv
    unfold maxLen at hvm
    go_wp2_with fail
    go_ret2
    exact ⟨rfl, H1.tl⟩
   ·rw [if_neg h0] at hR
    simp only [Prod.mk.injEq] at hR
    obtain ⟨⟨hR1, rfl⟩, hR2⟩ := hR
    have HR1 := Lib.hid hR1
    have HR2 := Lib.hid hR2
    have q1 : decide (0 < (nr : Int)) = false := by simpa using h0
    have q2 : decide (0 < nr) = false := by simpa using h0
    clear hR1 hR2
    go_enter Tryz.func104, Tryz.ntmps104
    go_wp2_with fail
    refine KR.out.mono ?_
    rintro e w1 ⟨v, rfl, H1⟩
    obtain ⟨va, vc, hv, hvc, hvm, _⟩ := H1.slc
    subst hv
    unfold maxLen at hvm
    have H1' := H1.tl
    clear H1 hvc
    go_wp2_with fail
    go_loopw [8, 26] (fun s i wr => ∃ k : Nat, k ≤ L.length ∧ i = .int .i64 k ∧ s = .int .i64 (parkK (oks gs) g L M k).1 ∧ SL wr (RsP gs (parkK (oks gs) g L M k).2 :: A :: B :: F)) (fun _ i _ => L.length - (intOf i).toNat)
    case atStart => exact ⟨0, Nat.zero_le _, rfl, rfl, H1'⟩
    case round =>
     obtain ⟨k, hk, rfl, rfl, HR⟩ := hrel
     have bd := HBD.out k
     by_cases hlt : k < L.length
     ·obtain ⟨b1, o1, e1, d3, d4, d5⟩ := case_at (HR.up1.read hA) k hlt
      subst e1
      have hs := parkK_succ (oks gs) g L M k hlt
      obtain ⟨c, hc⟩ : ∃ c, L[k] = c := ⟨_, rfl⟩
      rw [hc] at d3 d4 d5 hs
      clear hc
      obtain ⟨cs, cc, cv⟩ := c
      dsimp only at d3 d4 d5 hs
      have hPk := HP.out k
      have hMk := HML.out k
      obtain ⟨⟨nk, Mk⟩, hMM⟩ : ∃ r, parkK (oks gs) g L M k = r := ⟨_, rfl⟩
      obtain ⟨r2, hr2⟩ : ∃ r, parkK (oks gs) g L M (k + 1) = r := ⟨_, rfl⟩
      rw [hMM] at HR hs bd hPk hMk
      rw [hMM]
      rw [hr2] at hs
      dsimp only at HR hs bd hPk hMk ⊢
      have HR2' := Lib.hid hr2
      have k1 := fun (w' : World) (h : Rd w' 1 b gs.length (pcs gs)) => r_named (cap := cb) cc rfl h
      have HX := (HR.alloc (.cells #[.bool cs, .int .i64 cc, .int .i64 cv] 98)).up1
      have dl : (k : Int) < (L.length : Int) := by omega
      have dk : (0 : Int) ≤ (k : Int) := by omega
      rcases nm_pos gs cc with ⟨h1, h2⟩ | ⟨i, ga, h1, h2, h3, h4⟩
      ·rw [h1] at hs
       rw [h2] at k1
       unfold adr at k1
       dsimp only [Option.map] at k1 hs
       have K1 := Lib.hid k1
       have HS := Lib.hid hs
       clear k1 hs h1 h2 hr2 hMM hPk hMk
       go_wp2_with fail
       refine (K1.out _ (HX.up3.read hB)).mono ?_
       rintro e w' ⟨rfl, rfl⟩
       go_wp2_with fail
       go_roundw
       case rel => exact ⟨k + 1, by omega, by go_num, by rw [HR2'.out, HS.out], by rw [HR2'.out, HS.out]; exact HX.drop1⟩
       case measure => simp [intOf]; omega
      ·rw [h1] at hs
       rw [h2] at k1
       unfold adr at k1
       dsimp only [Option.map] at k1 hs
       have hi : i < Mk.length := by rw [hMk]; exact (List.getElem?_eq_some_iff.1 h3).1
       have k2 := fun (w' : World) (F' : List Piece) (H : SL w' (RsP gs Mk :: F')) => rs_wait (s := cs) (m := ⟨g, k, cv⟩) hMk h3 (hPk.get hi) H
       obtain ⟨⟨we, wy⟩, hwe⟩ : ∃ r, waitF (Mk.getD i (emptyM 0)) cs ⟨g, k, cv⟩ = r := ⟨_, rfl⟩
       rw [hwe] at k2 hs
       unfold Wtr.agg at k2
       dsimp only at k2 hs
       have K1 := Lib.hid k1
       have K2 := Lib.hid k2
       have HS := Lib.hid hs
       clear k1 k2 hs h1 h2 h3 h4 hr2 hMM hPk hMk hwe hi
       go_wp2_with fail
       refine (K1.out _ (HX.up3.read hB)).mono ?_
       rintro e w' ⟨rfl, rfl⟩
       go_wp2_with fail
       refine (K2.out _ _ HX).mono ?_
       rintro e w2 ⟨rfl, H2⟩
       by_cases hwz : we = 0
       ·have hs2 := HS.out
        rw [if_pos hwz] at hs2
        subst hwz
        have b3 : 0 ≤ nk + 1 := by omega
        have b4 : nk + 1 ≤ 4096000000000 := by omega
        have HS2 := Lib.hid hs2
        clear hs2 HS
        go_wp2_with fail
        go_roundw
        case rel => exact ⟨k + 1, by omega, by go_num, by rw [HR2'.out, HS2.out], by rw [HR2'.out, HS2.out]; exact H2.drop1⟩
        case measure => simp [intOf]; omega
       ·have hs2 := HS.out
        rw [if_neg hwz] at hs2
        have b3 : (we == 0) = false := by simpa using hwz
        have HS2 := Lib.hid hs2
        clear hs2 HS hwz
        go_wp2_with fail
        go_roundw
        case rel => exact ⟨k + 1, by omega, by go_num, by rw [HR2'.out, HS2.out, Int.add_zero], by rw [HR2'.out, HS2.out]; exact H2.drop1⟩
        case measure => simp [intOf]; omega
     ·have hkn : k = L.length := by omega
      have HK := Lib.hid hkn
      obtain ⟨nk, hnk⟩ : ∃ r, (parkK (oks gs) g L M k).1 = r := ⟨_, rfl⟩
      rw [hnk]
      have HNK := Lib.hid hnk
      clear hkn hnk
      go_wp2_with fail
      go_ret2
      have e1 : nk = rn := by rw [← HNK.out, HK.out]; exact HR1.out
      have e2 : (parkK (oks gs) g L M k).2 = rM := by rw [HK.out]; exact HR2.out
      rw [e1]
      rw [e2] at HR
      exact ⟨rfl, HR⟩
end
end Go.Proofs.YtcgajljbahbhdaaGreat
namespace Go.Proofs.YtcgajljbahbhdaaGreat
set_option linter.unusedVariables false
set_option linter.unusedSimpArgs false
open Go.RowKit
structure OpX where
 op : OpM
 ca : Option Addr
 cc : Nat
structure ProgX where
 ops : List OpX
 pa : Option Addr
 pc : Nat
def OpX.cells (o : OpX) : List Value := [.int .i64 o.op.kind, .int .i64 o.op.a, .int .i64 o.op.b, .slice o.ca o.op.cases.length o.cc, .bool o.op.dflt]
def progsM (X : List ProgX) : List (List OpM) := X.map (fun p => p.ops.map (·.op))
/-- A holds the programs X from cell off of block b on. -/
structure ScrA (A : Piece) (b off : Nat) (X : List ProgX) : Prop where
 prog : ∀ (S : Nat → Prop) (w : World), A.on S w → ∀ (k : Nat) (p : ProgX), X[k]? = some p → w.cell? ⟨b, off + k * 1, none⟩ = some (.slice p.pa p.ops.length p.pc)
 some_ : ∀ (k : Nat) (p : ProgX), X[k]? = some p → 0 < p.ops.length → ∃ b2 o2, p.pa = some ⟨b2, o2, none⟩
 op : ∀ (S : Nat → Prop) (w : World), A.on S w → ∀ (k : Nat) (p : ProgX), X[k]? = some p → ∀ b2 o2, p.pa = some ⟨b2, o2, none⟩ → ∀ (j : Nat) (o : OpX), p.ops[j]? = some o → ∀ (i : Nat) (v : Value), o.cells[i]? = some v → w.cell? ⟨b2, o2 + j * 5 + i, none⟩ = some v
 cap : ∀ (k : Nat) (p : ProgX), X[k]? = some p → p.ops.length ≤ p.pc
 case : ∀ (k : Nat) (p : ProgX), X[k]? = some p → ∀ (j : Nat) (o : OpX), p.ops[j]? = some o → Reader A 3 o.ca o.op.cases.length (o.op.cases.flatMap CaseM.cells) ∧ o.op.cases.length ≤ o.cc
/-- A holds the numbers xs from cell off of block b on. -/
def IntA (A : Piece) (b off : Nat) (xs : List Int) : Prop := ∀ (S : Nat → Prop) (w : World), A.on S w → ∀ (j : Nat) (x : Int), xs[j]? = some x → w.cell? ⟨b, off + j * 1, none⟩ = some (.int .i64 x)
section
variable {w : World} {L F : List Piece} {A : Piece} {b off : Nat} {X : List ProgX} {p : ProgX} {o : OpX} {v : Value} {K : Value → Prop} {xs : List Int} {x : Int}
theorem SL.ldP (H : SL w L) (i : Nat) (hi : L[i]? = some A) (hX : ScrA A b off X) (k : Nat) (hk : X[k]? = some p) (h : K (.slice p.pa p.ops.length p.pc)) : Ld w ⟨b, off + k * 1, none⟩ K := by
 obtain ⟨T, _, hT⟩ := SLs.at i H hi
 exact Ld.by (hX.prog T w hT k p hk) h
theorem LdC.P (i : Nat) (hi : L[i]? = some A) (hX : ScrA A b off X) (k : Nat) (hk : X[k]? = some p) (h : K (.slice p.pa p.ops.length p.pc)) : LdC (fun w => SL w L) ⟨b, off + k * 1, none⟩ K :=
 LdC.by (fun w H => by
  obtain ⟨T, _, hT⟩ := SLs.at i H hi
  exact hX.prog T w hT k p hk) h
theorem SL.ldO {b2 o2 : Nat} (H : SL w L) (n : Nat) (hi : L[n]? = some A) (hX : ScrA A b off X) (k : Nat) (hk : X[k]? = some p) (hp : p.pa = some ⟨b2, o2, none⟩) (j i : Nat) (hj : p.ops[j]? = some o) (hv : o.cells[i]? = some v) (h : K v) : Ld w ⟨b2, o2 + j * 5 + i, none⟩ K := by
 obtain ⟨T, _, hT⟩ := SLs.at n H hi
 exact Ld.by (hX.op T w hT k p hk b2 o2 hp j o hj i v hv) h
theorem LdC.I (i : Nat) (hi : L[i]? = some A) (hX : IntA A b off xs) (j : Nat) (hj : xs[j]? = some x) (h : K (.int .i64 x)) : LdC (fun w => SL w L) ⟨b, off + j * 1, none⟩ K :=
 LdC.by (fun w H => by
  obtain ⟨T, _, hT⟩ := SLs.at i H hi
  exact hX T w hT j x hj) h
end
def OnesP (tc te c : Nat) (L : List One) : Piece := ofAt (fun w S => OnesAt tc te w S c L) OnesAt.move OnesAt.mono
abbrev CrewP (c : Nat) (L : List One) : Piece := OnesP 126 128 c L
abbrev RCrewP (c : Nat) (L : List One) : Piece := OnesP 66 70 c L
section
variable {P : Program} {w : World} {F L : List Piece} {A B : Piece} {f : FuncId} {args : Array Value} {r : Value}
/-- A call that leaves all alone. -/
theorem SL.quiet (H : SL w L) (h : Calls P f args w fun e w' => e = .returned r ∧ Frm Nil w w') : Calls P f args w fun e w' => e = .returned r ∧ SL w' L :=
 h.mono fun e w' q => ⟨q.1, H.later q.2⟩
end
section
variable {w : World} {F : List Piece} {c : Nat} {L : List One} {g pr : Int}
theorem OnesP.at {tc te : Nat} (H : SL w (OnesP tc te c L :: F)) : ∃ S, OnesAt tc te w S c L := by
 obtain ⟨S, _, h⟩ := H.on
 exact ⟨S, h⟩
theorem crew_sl {f : FuncId} {args : Array Value} {r : Value} {L' : List One} (h : ∀ S, CrewAt w S c L → Calls Tryz.prog f args w (CrewPost S c w r L')) (H : SL w (CrewP c L :: F)) : Calls Tryz.prog f args w fun e w' => e = .returned r ∧ SL w' (CrewP c L' :: F) := by
 obtain ⟨S, h1, h2, h3⟩ := H.call
 refine (h S h1).mono ?_
 rintro e w' ⟨q1, q2, q3⟩
 exact ⟨q1, h3 w' [CrewP c L'] q3 ⟨_, fun _ h => h, q2, trivial⟩⟩
theorem p_over (hL : L.length ≤ 512) (H : SL w (CrewP c L :: F)) : Calls Tryz.prog 46 #[.pointer (some ⟨c, 0, none⟩)] w fun e w' => e = .returned (.int .i64 (overF L)) ∧ SL w' (CrewP c L :: F) := by
 obtain ⟨S, h⟩ := OnesP.at H
 exact H.quiet (crew_over h hL)
theorem p_go (hp : Small L 100000000) (g : Int) (H : SL w (CrewP c L :: F)) : Calls Tryz.prog 92 #[.pointer (some ⟨c, 0, none⟩), .int .i64 g] w fun e w' => e = .returned (.int .i64 (turnF L g 0 0 1).1) ∧ SL w' (CrewP c (turnF L g 0 0 1).2 :: F) := crew_sl (fun S h => crew_go h hp g) H
theorem p_park (hp : Small L 100000000) (g : Int) (H : SL w (CrewP c L :: F)) : Calls Tryz.prog 118 #[.pointer (some ⟨c, 0, none⟩), .int .i64 g] w fun e w' => e = .returned (.int .i64 (turnF L g 0 1 0).1) ∧ SL w' (CrewP c (turnF L g 0 1 0).2 :: F) := crew_sl (fun S h => crew_park h hp g) H
theorem p_wake (hp : Small L 100000000) (g : Int) (H : SL w (CrewP c L :: F)) : Calls Tryz.prog 136 #[.pointer (some ⟨c, 0, none⟩), .int .i64 g] w fun e w' => e = .returned (.int .i64 (turnF L g 1 0 1).1) ∧ SL w' (CrewP c (turnF L g 1 0 1).2 :: F) := crew_sl (fun S h => crew_wake h hp g) H
theorem p_exit (hp : Small L 100000000) (g : Int) (H : SL w (CrewP c L :: F)) : Calls Tryz.prog 91 #[.pointer (some ⟨c, 0, none⟩), .int .i64 g] w fun e w' => e = .returned (.int .i64 (turnF L g 0 2 0).1) ∧ SL w' (CrewP c (turnF L g 0 2 0).2 :: F) := crew_sl (fun S h => crew_exit h hp g) H
theorem p_spawn (hL : L.length ≤ 512) (pr : Int) (H : SL w (CrewP c L :: F)) : Calls Tryz.prog 38 #[.pointer (some ⟨c, 0, none⟩), .int .i64 pr] w fun e w' => e = .returned (.tuple #[.int .i64 (spawnF L pr).1.1, .int .i64 (spawnF L pr).1.2]) ∧ SL w' (CrewP c (spawnF L pr).2 :: F) :=
 crew_sl (fun S h => crew_spawn h hL pr) H
end
end Go.Proofs.YtcgajljbahbhdaaGreat
