/- Layer 10, fork: many pipes; who is named; which cases are ready. -/
import Derived.Test.YtlccpbdpfamekaaQuiet9
import Derived.Deep.RegionHeld3
namespace Go.Proofs.Ytlccpbdpfamekaa
set_option linter.unusedVariables false
set_option linter.unusedSimpArgs false
open Go.RowKit

def adr (o : Option Nat) : Value := .pointer (o.map fun g => ⟨g, 0, none⟩)
def pcs (gs : List (Option Nat)) : List Value := gs.map adr

def pieceO (P : Nat → PipeM → Piece) : Option Nat → PipeM → Piece
  | none, _ => emp
  | some g, x => P g x

/-- Pipes side by side; of none there is nothing. -/
def PsP (gs : List (Option Nat)) (M : List PipeM) : Piece := all (List.zipWith (pieceO PipeP) gs M)
def RsP (gs : List (Option Nat)) (M : List PipeM) : Piece := all (List.zipWith (pieceO RefP) gs M)

/-! ## one of many -/
theorem SLs.take {w : World} : ∀ {L : List Piece} {S : Nat → Prop} (i : Nat) {A : Piece}, SLs w S L → L[i]? = some A → SLs w S (A :: L.set i emp)
  | [], _, i, _, _, h => by simp at h
  | B :: L, S, 0, A, h, hi => by
    simp at hi
    subst hi
    obtain ⟨T, h1, h2, h3⟩ := h
    exact ⟨T, h1, h2, fun _ => False, fun _ h => h.elim, trivial, h3.mono (fun k hk => ⟨hk, id⟩)⟩
  | B :: L, S, i + 1, A, h, hi => (SLs.congr (fun S' h' => SLs.take i h' (by simpa using hi)) h).swap

theorem SLs.put {w : World} : ∀ {L : List Piece} {S : Nat → Prop} (i : Nat) {A : Piece}, i < L.length → SLs w S (A :: L.set i emp) → SLs w S (L.set i A)
  | [], _, i, _, h, _ => absurd h (Nat.not_lt_zero i)
  | B :: L, S, 0, A, _, h => SLs.congr (fun S' h' => SLs.tl h') h
  | B :: L, S, i + 1, A, hi, h => SLs.congr (fun S' h' => SLs.put i (by simpa using hi) h') h.swap

section
variable {w : World} {F : List Piece} {gs : List (Option Nat)} {M : List PipeM} {P : Nat → PipeM → Piece}

theorem zip_get {i g : Nat} {x : PipeM} (hg : gs[i]? = some (some g)) (hx : M[i]? = some x) : (List.zipWith (pieceO P) gs M)[i]? = some (P g x) := by
  rw [List.getElem?_zipWith, hg, hx]
  rfl

theorem zip_set {i g : Nat} (hg : gs[i]? = some (some g)) (y : PipeM) : (List.zipWith (pieceO P) gs M).set i (P g y) = List.zipWith (pieceO P) gs (M.set i y) := by
  apply List.ext_getElem?
  intro j
  by_cases hj : i = j
  · subst hj
    rw [List.getElem?_set_self', List.getElem?_zipWith, List.getElem?_zipWith, hg, List.getElem?_set_self']
    cases M[i]? <;> rfl
  · rw [List.getElem?_set_ne hj, List.getElem?_zipWith, List.getElem?_zipWith, List.getElem?_set_ne hj]

theorem all_take {i g : Nat} {x : PipeM} (hg : gs[i]? = some (some g)) (hx : M[i]? = some x) (H : SL w (all (List.zipWith (pieceO P) gs M) :: F)) : SL w (P g x :: all ((List.zipWith (pieceO P) gs M).set i emp) :: F) := by
  have h := SL.all.1 H
  obtain ⟨T, t1, t2, t3⟩ := SLs.app.1 h
  have t4 := SLs.take i t2 (zip_get (P := P) hg hx)
  obtain ⟨U, u1, u2, u3⟩ := t4
  exact ⟨U, fun k hk => t1 k (u1 k hk), u2, fun k => T k ∧ ¬ U k, fun k hk => ⟨t1 k hk.1, hk.2⟩, u3, t3.mono (fun k hk => ⟨⟨hk.1, fun hu => hk.2 (u1 k hu)⟩, fun ht => hk.2 ht.1⟩)⟩

theorem all_put {i g : Nat} {x y : PipeM} (hg : gs[i]? = some (some g)) (hx : M[i]? = some x) (H : SL w (P g y :: all ((List.zipWith (pieceO P) gs M).set i emp) :: F)) : SL w (all (List.zipWith (pieceO P) gs (M.set i y)) :: F) := by
  obtain ⟨U, u1, u2, T, t1, t2, t3⟩ := H
  rw [← zip_set hg y]
  have hlen : i < (List.zipWith (pieceO P) gs M).length := by
    have := zip_get (P := P) hg hx
    exact (List.getElem?_eq_some_iff.1 this).1
  refine ⟨fun k => U k ∨ T k, fun k hk => hk.elim (u1 k) (fun h => (t1 k h).1), SLs.put i hlen ⟨U, fun k hk => .inl hk, u2, t2.mono (fun k hk => ⟨.inr hk, (t1 k hk).2⟩)⟩, t3.mono (fun k hk => ⟨hk.1.1, fun h => h.elim hk.1.2 hk.2⟩)⟩

theorem all_at {i g : Nat} {x : PipeM} (hg : gs[i]? = some (some g)) (hx : M[i]? = some x) (H : SL w (all (List.zipWith (pieceO P) gs M) :: F)) : ∃ S, (P g x).on S w := by
  obtain ⟨S, _, h⟩ := (all_take hg hx H).on
  exact ⟨S, h⟩
end

/-! ## cases -/
structure CaseM where
  send : Bool
  chan : Int
  value : Int

def CaseM.cells (c : CaseM) : List Value := [.bool c.send, .int .i64 c.chan, .int .i64 c.value]
def CaseM.agg (c : CaseM) : Value := .agg #[.bool c.send, .int .i64 c.chan, .int .i64 c.value]

theorem case_at {w : World} {a : Option Addr} {n : Nat} {L : List CaseM} (h : Rd w 3 a n (L.flatMap CaseM.cells)) (k : Nat) (hk : k < L.length) : ∃ b off, a = some ⟨b, off, none⟩ ∧
    w.cell? ⟨b, off + k * 3, none⟩ = some (.bool L[k].send) ∧ w.cell? ⟨b, off + k * 3 + 1, none⟩ = some (.int .i64 L[k].chan) ∧ w.cell? ⟨b, off + k * 3 + 2, none⟩ = some (.int .i64 L[k].value) := by
  have hl := h.1
  rw [flat_length CaseM.cells 3 (fun _ => rfl)] at hl
  obtain ⟨b, off, rfl, hc⟩ := h.2.2 (by omega)
  have key : ∀ j (hj : j < 3), ∀ u, (L[k].cells)[j]? = some u → w.cell? ⟨b, off + k * 3 + j, none⟩ = some u := fun j hj u hu => by
    rw [Nat.add_assoc]
    exact hc (k * 3 + j) u (by rw [flat_get CaseM.cells 3 (fun _ => rfl) L k j hj hk]; exact hu)
  exact ⟨b, off, rfl, key 0 (by omega) _ rfl, key 1 (by omega) _ rfl, key 2 (by omega) _ rfl⟩

/-- Whose address a name has. -/
def nm (gs : List (Option Nat)) (c : Int) : Option Nat := if 0 ≤ c ∧ c < gs.length then gs.getD c.toNat none else none

/-- Which pipe a name is; ok: which are there. -/
def posF (ok : List Bool) (c : Int) : Option Nat := if 0 ≤ c ∧ c < ok.length ∧ ok.getD c.toNat false = true then some c.toNat else none

def oks (gs : List (Option Nat)) : List Bool := gs.map Option.isSome

theorem nm_pos (gs : List (Option Nat)) (c : Int) : (posF (oks gs) c = none ∧ nm gs c = none) ∨ (∃ i g, posF (oks gs) c = some i ∧ nm gs c = some g ∧ gs[i]? = some (some g) ∧ c = i) := by
  unfold posF nm oks
  rw [List.length_map]
  by_cases h : 0 ≤ c ∧ c < gs.length
  · rw [if_pos h]
    obtain ⟨i, rfl⟩ : ∃ i : Nat, c = i := ⟨c.toNat, by omega⟩
    have hi : i < gs.length := by omega
    rw [Int.toNat_natCast, List.getD_eq_getElem?_getD, List.getD_eq_getElem?_getD, List.getElem?_map, List.getElem?_eq_getElem hi]
    rcases hg : gs[i] with _ | g
    · exact .inl ⟨by rw [if_neg (by simp)], rfl⟩
    · exact .inr ⟨i, g, by rw [if_pos ⟨h.1, h.2, rfl⟩], rfl, by rw [List.getElem?_eq_getElem hi, hg], rfl⟩
  · rw [if_neg h]
    exact .inl ⟨if_neg (fun q => h ⟨q.1, q.2.1⟩), rfl⟩

def readyC (ok : List Bool) (M : List PipeM) (c : CaseM) : Bool := match posF ok c.chan with | none => false | some i => readyF (M.getD i (emptyM 0)) c.send

def readyK (ok : List Bool) (M : List PipeM) (L : List CaseM) (k : Nat) : List Int := ((List.range k).filter (fun i : Nat => readyC ok M (L.getD i ⟨false, 0, 0⟩))).map (fun i : Nat => (i : Int))

def readyL (ok : List Bool) (M : List PipeM) (L : List CaseM) : List Int := readyK ok M L L.length

theorem readyK_succ (ok : List Bool) (M : List PipeM) (L : List CaseM) (k : Nat) (hk : k < L.length) : readyK ok M L (k + 1) = readyK ok M L k ++ if readyC ok M L[k] then [(k : Int)] else [] := by
  unfold readyK
  rw [List.range_succ, List.filter_append, List.map_append]
  congr 1
  have e : L.getD k ⟨false, 0, 0⟩ = L[k] := by rw [List.getD_eq_getElem?_getD, List.getElem?_eq_getElem hk]; rfl
  rw [List.filter_cons, e, List.filter_nil]
  split <;> rfl

theorem readyK_le (ok : List Bool) (M : List PipeM) (L : List CaseM) (k : Nat) : (readyK ok M L k).length ≤ k := by
  unfold readyK
  rw [List.length_map]
  exact Nat.le_trans (List.length_filter_le _ _) (by simp)

section
variable {w : World} {F : List Piece} {gs : List (Option Nat)} {M : List PipeM}

set_option maxHeartbeats 400000 in
theorem f_named {a : Option Addr} {n cap : Nat} (c : Int) (hn : n = gs.length) (h : Rd w 1 a n (pcs gs)) : Calls Try.prog 67 #[.slice a n cap, .int .i64 c] w fun e w' => e = .returned (adr (nm gs c)) ∧ w = w' := by
  obtain ⟨v, hv⟩ : ∃ v, nm gs c = v := ⟨_, rfl⟩
  rw [hv]
  unfold nm at hv
  subst hn
  by_cases h1 : c < 0
  · rw [if_neg (by omega)] at hv
    subst hv
    go_enter Try.func67, Try.ntmps67
    go_wp2_with fail
    go_ret
    exact ⟨rfl, rfl⟩
  · obtain ⟨k, rfl⟩ : ∃ k : Nat, c = k := ⟨c.toNat, by omega⟩
    by_cases h2 : k < gs.length
    · rw [if_pos (by omega), Int.toNat_natCast] at hv
      obtain ⟨b, off, rfl, hc⟩ := h.2.2 (by omega)
      have h3 := hc k (adr v) (by unfold pcs; rw [List.getElem?_map, List.getElem?_eq_getElem h2]; rw [List.getD_eq_getElem?_getD, List.getElem?_eq_getElem h2] at hv; simp at hv; rw [hv]; rfl)
      have h4 := World.block_lt_of_cell? w _ h3
      dsimp only at h4
      unfold adr at h3 ⊢
      obtain ⟨q, hq⟩ : ∃ q, v.map (fun g => (⟨g, 0, none⟩ : Addr)) = q := ⟨_, rfl⟩
      rw [hq] at h3 ⊢
      clear hc hv hq
      have d1 : (k : Int) < (gs.length : Int) := by omega
      have d2 : ¬ (gs.length : Int) ≤ (k : Int) := by omega
      have d3 : (0 : Int) ≤ (k : Int) := by omega
      go_enter Try.func67, Try.ntmps67
      go_wp2_with fail
      go_ret
      exact ⟨rfl, rfl⟩
    · rw [if_neg (by omega)] at hv
      subst hv
      have d2 : (gs.length : Int) ≤ (k : Int) := by omega
      go_enter Try.func67, Try.ntmps67
      go_wp2_with fail
      go_ret
      exact ⟨rfl, rfl⟩

theorem ps_ready (hM : M.length = gs.length) (c : Int) (s : Bool) (v : Int) (H : SL w (PsP gs M :: F)) : Calls Try.prog 20 #[adr (nm gs c), .bool s] w fun e w' => e = .returned (.bool (readyC (oks gs) M ⟨s, c, v⟩)) ∧ Frm Nil w w' := by
  unfold readyC
  rcases nm_pos gs c with ⟨h1, h2⟩ | ⟨i, g, h1, h2, h3, h4⟩
  · dsimp only
    rw [h1, h2]
    exact pipe_ready_nil s w
  · dsimp only
    rw [h1, h2]
    have hi : i < M.length := by rw [hM]; exact (List.getElem?_eq_some_iff.1 h3).1
    obtain ⟨S, hS⟩ := all_at (P := PipeP) h3 (List.getElem?_eq_getElem hi) H
    show Calls _ _ _ _ fun e w' => e = .returned (.bool (readyF (M.getD i (emptyM 0)) s)) ∧ Frm Nil w w'
    rw [List.getD_eq_getElem?_getD, List.getElem?_eq_getElem hi]
    exact pipe_ready hS s
end

end Go.Proofs.Ytlccpbdpfamekaa
