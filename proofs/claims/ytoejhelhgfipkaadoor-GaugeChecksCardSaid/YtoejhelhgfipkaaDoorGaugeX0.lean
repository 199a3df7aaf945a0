/- Gauge: the reader as a piece. -/
import Derived.Test.YtoejhelhgfipkaaDoorSxQ
import Derived.Test.YtoejhelhgfipkaaDoorGaugeW
namespace Go.Proofs.YtoejhelhgfipkaaDoor
set_option linter.unusedVariables false
set_option linter.unusedSimpArgs false
open Go.RowKit

/-- What entry lets by lies in these bounds. -/
structure EvB (e : Ev) : Prop where
  kind : 1 ≤ e.kind ∧ e.kind ≤ 13
  g : -1 ≤ e.g ∧ e.g ≤ 511
  g0 : e.kind ≠ 13 → 0 ≤ e.g
  chan : -1 ≤ e.chan ∧ e.chan ≤ 511
  mate : -1 ≤ e.mate ∧ e.mate ≤ 511
  value : -1 ≤ e.value ∧ e.value ≤ 99

/-- A channel: its row and its buffer. -/
def chP (p : Nat) (c : ChnM) : Piece := exP fun v => all [row p #[.int .i64 c.size, v, .bool c.closed] 118, Qu 3 1 v c.buf.length (ints c.buf)]

def chMap (ps : List Nat) : Int → Option Value := fun c => if c < 0 then none else (ps[c.toNat]?).map fun p => .pointer (some ⟨p, 0, none⟩)

def chsP (ps : List Nat) (cs : List ChnM) : Piece := all (List.zipWith chP ps cs)

theorem chMap_none {ps : List Nat} {cs : List ChnM} (hl : ps.length = cs.length) {r : RdrM} (hr : r.chans = cs) {c : Int} (h : chanF r c = none) : chMap ps c = none := by
  unfold chanF at h
  unfold chMap
  split
  · rfl
  · rename_i h0
    rw [if_neg h0, hr] at h
    rw [List.getElem?_eq_none (by rw [hl]; exact List.getElem?_eq_none_iff.1 h)]
    rfl

theorem chMap_some {ps : List Nat} {cs : List ChnM} (hl : ps.length = cs.length) {r : RdrM} (hr : r.chans = cs) {c : Int} {x : ChnM} (h : chanF r c = some x) : ∃ (k : Nat) (p : Nat), c = (k : Int) ∧ cs[k]? = some x ∧ ps[k]? = some p ∧ chMap ps c = some (.pointer (some ⟨p, 0, none⟩)) := by
  unfold chanF at h
  unfold chMap
  split at h
  · cases h
  · rename_i h0
    rw [if_neg h0]
    rw [hr] at h
    obtain ⟨hk, e⟩ := List.getElem?_eq_some_iff.1 h
    refine ⟨c.toNat, ps[c.toNat]'(by omega), by omega, h, by simp, ?_⟩
    rw [List.getElem?_eq_getElem (by omega)]
    rfl

theorem chMap_snoc (ps : List Nat) (b : Nat) : upd (chMap ps) (ps.length : Int) (some (.pointer (some ⟨b, 0, none⟩))) = chMap (ps ++ [b]) := by
  funext c
  unfold upd chMap
  by_cases h : c = (ps.length : Int)
  · subst h
    simp
  · rw [if_neg h]
    split
    · rfl
    · rename_i h0
      rcases Nat.lt_or_ge c.toNat ps.length with h1 | h1
      · rw [List.getElem?_append_left h1]
      · rw [List.getElem?_eq_none h1, List.getElem?_eq_none (by simp; omega)]

theorem chMap_new (ps : List Nat) : chMap ps (ps.length : Int) = none := by
  unfold chMap
  split
  · rfl
  · simp

section
variable {w : World} {F : List Piece} {ps : List Nat} {cs : List ChnM} {k p : Nat} {x y : ChnM}
theorem chs_take (hl : ps.length = cs.length) (hp : ps[k]? = some p) (hx : cs[k]? = some x) (H : SL w (chsP ps cs :: F)) : ∃ v, SL w (row p #[.int .i64 x.size, v, .bool x.closed] 118 :: Qu 3 1 v x.buf.length (ints x.buf) :: all ((List.zipWith chP ps cs).eraseIdx k) :: F) := by
  have h := all_take (A := chP p x) k (by rw [List.getElem?_zipWith, hp, hx]) H
  obtain ⟨v, h⟩ := SL.exP.1 h
  exact ⟨v, SL.all.1 h⟩
theorem chs_put (hl : ps.length = cs.length) (hp : ps[k]? = some p) (hx : cs[k]? = some x) {v : Value} (H : SL w (row p #[.int .i64 y.size, v, .bool y.closed] 118 :: Qu 3 1 v y.buf.length (ints y.buf) :: all ((List.zipWith chP ps cs).eraseIdx k) :: F)) : SL w (chsP ps (cs.set k y) :: F) := by
  have h : SL w (chP p y :: all ((List.zipWith chP ps cs).eraseIdx k) :: F) := SL.exP.2 ⟨v, SL.all.2 H⟩
  obtain ⟨hk, _⟩ := List.getElem?_eq_some_iff.1 hp
  have h2 := all_put k (by rw [List.length_zipWith]; omega) h
  have e : (List.zipWith chP ps cs).set k (chP p y) = List.zipWith chP ps (cs.set k y) := by
    apply List.ext_getElem?
    intro i
    rw [List.getElem?_zipWith, List.getElem?_set]
    by_cases hi : k = i
    · subst hi
      rw [if_pos rfl, List.length_zipWith, if_pos (by omega), hp, List.getElem?_set_self (by omega)]
    · rw [if_neg hi, List.getElem?_zipWith, List.getElem?_set_ne hi]
  rw [e] at h2
  exact h2
theorem chs_snoc (hl : ps.length = cs.length) {b : Nat} {v : Value} (H : SL w (row b #[.int .i64 y.size, v, .bool y.closed] 118 :: Qu 3 1 v y.buf.length (ints y.buf) :: chsP ps cs :: F)) : SL w (chsP (ps ++ [b]) (cs ++ [y]) :: F) := by
  have h : SL w (chP b y :: chsP ps cs :: F) := SL.exP.2 ⟨v, SL.all.2 H⟩
  unfold chsP
  rw [List.zipWith_append hl]
  refine SL.all.2 ?_
  have h2 := SL.all.1 h.up1
  have h3 := h2.perm (List.perm_middle (a := chP b y) (l₁ := List.zipWith chP ps cs) (l₂ := F))
  rw [List.append_assoc]
  exact h2
end

/-- The reader behind a pointer. -/
def RdP (rb : Nat) (lv : Value) (at_ : Int) (r : RdrM) : Piece := exP fun (x : Value × Nat × List Nat) => andP (x.2.2.length = r.chans.length)
  (all [rdrRow rb lv at_ x.1 x.2.1 r.closer r.over, Slc 114 2 x.1 r.crew.length (crewC r.crew), MapP 3 x.2.1 r.chans.length (chMap x.2.2), chsP x.2.2 r.chans])

theorem RdP.iff {w : World} {F : List Piece} {rb : Nat} {lv : Value} {at_ : Int} {r : RdrM} : SL w (RdP rb lv at_ r :: F) ↔ ∃ crv mb ps, ps.length = r.chans.length ∧
    SL w (rdrRow rb lv at_ crv mb r.closer r.over :: Slc 114 2 crv r.crew.length (crewC r.crew) :: MapP 3 mb r.chans.length (chMap ps) :: chsP ps r.chans :: F) := by
  constructor
  · intro h
    obtain ⟨⟨crv, mb, ps⟩, h⟩ := SL.exP.1 h
    obtain ⟨h1, h⟩ := SL.andP.1 h
    exact ⟨crv, mb, ps, h1, SL.all.1 h⟩
  · rintro ⟨crv, mb, ps, h1, h⟩
    exact SL.exP.2 ⟨(crv, mb, ps), SL.andP.2 ⟨h1, SL.all.2 h⟩⟩

/-- How large the reader may be. -/
structure Sized (n : Nat) (r : RdrM) : Prop where
  pos : 0 < r.crew.length
  crew : r.crew.length ≤ n + 1
  chans : r.chans.length ≤ n
  buf : ∀ c ∈ r.chans, c.buf.length ≤ n

/-- Rule 2. -/
theorem g_crewed {w : World} {F : List Piece} {rb n : Nat} {lv : Value} {at_ : Int} {r : RdrM} {e : Ev} (B : EvB e) (hs : Sized n r) (hn : n < 1000000) (H : SL w (RdP rb lv at_ r :: F)) :
    Calls Tryd.prog 37 #[.pointer (some ⟨rb, 0, none⟩), e.agg] w fun o w' => o = .returned (.bool (crewedF r e).1) ∧ SL w' (RdP rb lv at_ (crewedF r e).2 :: F) := by
  obtain ⟨crv, mb, ps, hl, H⟩ := RdP.iff.1 H
  obtain ⟨g, cap, hv⟩ : ∃ g c, crv = .slice (some ⟨g, 0, none⟩) r.crew.length c := by
    obtain ⟨S, _, h⟩ := H.tl.on
    obtain ⟨a, c, e⟩ := own_form h.1
    rw [e] at h
    obtain ⟨g, e2⟩ := own_some h.1 hs.pos
    exact ⟨g, c, by rw [e, e2]⟩
  have hch : (crewedF r e).2.chans = r.chans ∧ (crewedF r e).2.closer = r.closer := by
    unfold crewedF
    repeat' split
    all_goals exact ⟨rfl, rfl⟩
  obtain ⟨cr, chans, c, over⟩ := r
  obtain ⟨kind, gg, chan, case_, value, mate, send, ok⟩ := e
  have close : ∀ o w', (o = Ending.returned (.bool (crewedF ⟨cr, chans, c, over⟩ ⟨kind, gg, chan, case_, value, mate, send, ok⟩).1) ∧ ∃ crv, SL w' (rdrRow rb lv at_ crv mb c (crewedF ⟨cr, chans, c, over⟩ ⟨kind, gg, chan, case_, value, mate, send, ok⟩).2.over :: Slc 114 2 crv (crewedF ⟨cr, chans, c, over⟩ ⟨kind, gg, chan, case_, value, mate, send, ok⟩).2.crew.length (crewC (crewedF ⟨cr, chans, c, over⟩ ⟨kind, gg, chan, case_, value, mate, send, ok⟩).2.crew) :: MapP 3 mb chans.length (chMap ps) :: chsP ps chans :: F)) →
      o = .returned (.bool (crewedF ⟨cr, chans, c, over⟩ ⟨kind, gg, chan, case_, value, mate, send, ok⟩).1) ∧ SL w' (RdP rb lv at_ (crewedF ⟨cr, chans, c, over⟩ ⟨kind, gg, chan, case_, value, mate, send, ok⟩).2 :: F) := by
    rintro o w' ⟨h1, crv, h2⟩
    refine ⟨h1, RdP.iff.2 ⟨crv, mb, ps, ?_, ?_⟩⟩
    · rw [hch.1]
      exact hl
    · rw [hch.1, hch.2]
      exact h2
  dsimp only at hl H hv
  subst hv
  cases over
  · by_cases h13 : kind = 13
    · subst h13
      exact (crewed_13 (gn := 0) (cb := 0) (cap := 0) (kind := 0) H chans).mono close
    · have h0 := B.g0 h13
      dsimp only at h0
      obtain ⟨gn, rfl⟩ := Int.eq_ofNat_of_zero_le h0
      cases hx : cr[gn]? with
      | none => exact (crewed_none (crv := .nilFunc) (g := 0) h13 (List.getElem?_eq_none_iff.1 hx) H chans).mono close
      | some x =>
        obtain ⟨wa, ex⟩ := x
        exact (crewed_in h13 hx (Nat.lt_of_le_of_lt hs.crew (by omega)) H chans).mono close
  · exact (crewed_over (gn := 0) (cb := 0) (cap := 0) H chans).mono close

end Go.Proofs.YtoejhelhgfipkaaDoor
