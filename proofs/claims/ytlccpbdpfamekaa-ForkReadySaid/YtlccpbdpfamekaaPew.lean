/- Layer 8, pew: what each method does to a pew, said of lists. -/
import Derived.Test.YtlccpbdpfamekaaBase
import Derived.Deep.QuietTactic
import Derived.BigQuiet
import Derived.Deep.DeepMust
namespace Go.Proofs.Ytlccpbdpfamekaa
set_option linter.unusedVariables false
set_option linter.unusedSimpArgs false
open Go.RowKit

structure Wtr where
  g : Int
  case_ : Int
  value : Int
  deriving DecidableEq

def Wtr.cells (x : Wtr) : List Value := [.int .i64 x.g, .int .i64 x.case_, .int .i64 x.value]
def Wtr.agg (x : Wtr) : Value := .agg #[.int .i64 x.g, .int .i64 x.case_, .int .i64 x.value]

def ptrOf (b : Option Nat) : Value := .pointer (b.map fun b => ⟨b, 0, none⟩)

def seatRow (x : Wtr) (next : Option Nat) : Obj := .cells #[.int .i64 x.g, .int .i64 x.case_, .int .i64 x.value, ptrOf next] 124 (0, 0)

theorem seatRow_inj {x y : Wtr} {a b : Option Nat} (h : seatRow x a = seatRow y b) : x = y := by
  obtain ⟨x1, x2, x3⟩ := x
  obtain ⟨y1, y2, y3⟩ := y
  simp only [seatRow, Obj.cells.injEq, Array.mk.injEq, List.cons.injEq, Value.int.injEq, true_and, and_true] at h
  obtain ⟨h1, h2, h3, _⟩ := h
  rw [h1, h2, h3]

/-- The blocks bs are linked seats with the waiters L. -/
def SeatsAt (w : World) (bs : List Nat) (L : List Wtr) : Prop :=
  bs.length = L.length ∧ ∀ i (h : i < L.length) (h' : i < bs.length), w.heap[bs[i]]? = some (seatRow L[i] bs[i + 1]?)

/-- Block p is a pew in which L wait. -/
def PewAt (w : World) (S : Nat → Prop) (p : Nat) (L : List Wtr) : Prop :=
  ∃ bs : List Nat, SeatsAt w bs L ∧ bs.Nodup ∧ p ∉ bs ∧ (∀ b ∈ bs, S b) ∧ S p ∧
    w.heap[p]? = some (.cells #[ptrOf bs.head?, ptrOf bs.getLast?, .int .i64 L.length] 120 (0, 0))

theorem SeatsAt.move {w w' : World} {bs : List Nat} {L : List Wtr} (h : SeatsAt w bs L) (hm : ∀ b ∈ bs, w'.heap[b]? = w.heap[b]?) : SeatsAt w' bs L :=
  ⟨h.1, fun i hi hb => (hm _ (List.getElem_mem hb)).trans (h.2 i hi hb)⟩

theorem SeatsAt.lt {w : World} {bs : List Nat} {L : List Wtr} (h : SeatsAt w bs L) : ∀ b ∈ bs, b < w.heap.size := by
  intro b hb
  obtain ⟨i, hi, rfl⟩ := List.getElem_of_mem hb
  exact lt_of_block (h.2 i (by rw [← h.1]; exact hi) hi)

theorem PewAt.move {w w' : World} {S : Nat → Prop} {p : Nat} {L : List Wtr} (h : PewAt w S p L) (hm : ∀ k, S k → w'.heap[k]? = w.heap[k]?) : PewAt w' S p L := by
  obtain ⟨bs, h1, h2, h3, h4, h5, h6⟩ := h
  exact ⟨bs, h1.move (fun b hb => hm b (h4 b hb)), h2, h3, h4, h5, (hm p h5).trans h6⟩

theorem PewAt.mono {w : World} {S T : Nat → Prop} {p : Nat} {L : List Wtr} (h : PewAt w S p L) (hm : ∀ k, S k → T k) : PewAt w T p L := by
  obtain ⟨bs, h1, h2, h3, h4, h5, h6⟩ := h
  exact ⟨bs, h1, h2, h3, fun b hb => hm b (h4 b hb), hm p h5, h6⟩

theorem PewAt.bound {w : World} {S : Nat → Prop} {p : Nat} {L : List Wtr} (h : PewAt w S p L) : PewAt w (fun k => S k ∧ k < w.heap.size) p L := by
  obtain ⟨bs, h1, h2, h3, h4, h5, h6⟩ := h
  exact ⟨bs, h1, h2, h3, fun b hb => ⟨h4 b hb, h1.lt b hb⟩, ⟨h5, lt_of_block h6⟩, h6⟩

theorem PewAt.move' {w w' : World} {S : Nat → Prop} {p : Nat} {L : List Wtr} (h : PewAt w S p L) (hf : Frm Nil w w') : PewAt w' S p L :=
  (h.bound.move (fun k hk => hf.block k hk.2 id)).mono (fun _ hk => hk.1)

section
variable {w : World} {S : Nat → Prop} {p : Nat} {L : List Wtr}

theorem heap_old2 {w : World} {g : Nat} {o : Obj} (a b : Obj) (h : w.heap[g]? = some o) : ((w.alloc a).alloc b).heap[g]? = some o :=
  (Below.heap_alloc _ _ _ (by have := lt_of_block h; simp; omega)).trans ((Below.heap_alloc _ _ _ (lt_of_block h)).trans h)

theorem heap_new2 {w : World} (a b : Obj) : ((w.alloc a).alloc b).heap[w.heap.size + 1]? = some b := by
  have := heap_alloc_new (w.alloc a) b
  rwa [show (w.alloc a).heap.size = w.heap.size + 1 by simp] at this

theorem heap_new2' {w : World} (a b : Obj) {k : Nat} (hk : k = w.heap.size + 1) : ((w.alloc a).alloc b).heap[k]? = some b := by
  rw [hk]
  exact heap_new2 a b

theorem pew_cells {a b c : Value} {t : Nat} (h : w.heap[p]? = some (.cells #[a, b, c] t (0, 0))) :
    w.cell? ⟨p, 0, none⟩ = some a ∧ w.cell? ⟨p, 1, none⟩ = some b ∧ w.cell? ⟨p, 2, none⟩ = some c ∧ (∀ i, w.frozen? ⟨p, i, none⟩ = false) :=
  ⟨by rw [cell_of_row _ _ _ _ _ _ h]; rfl, by rw [cell_of_row _ _ _ _ _ _ h]; rfl, by rw [cell_of_row _ _ _ _ _ _ h]; rfl, fun i => by simp [World.frozen?, h]⟩

theorem seat_cells {b : Nat} {x : Wtr} {n : Option Nat} (h : w.heap[b]? = some (seatRow x n)) :
    w.cell? ⟨b, 0, none⟩ = some (.int .i64 x.g) ∧ w.cell? ⟨b, 1, none⟩ = some (.int .i64 x.case_) ∧ w.cell? ⟨b, 2, none⟩ = some (.int .i64 x.value) ∧ w.cell? ⟨b, 3, none⟩ = some (ptrOf n) ∧ (∀ i, w.frozen? ⟨b, i, none⟩ = false) := by
  unfold seatRow at h
  exact ⟨by rw [cell_of_row _ _ _ _ _ _ h]; rfl, by rw [cell_of_row _ _ _ _ _ _ h]; rfl, by rw [cell_of_row _ _ _ _ _ _ h]; rfl, by rw [cell_of_row _ _ _ _ _ _ h]; rfl, fun i => by simp [World.frozen?, h]⟩

set_option maxHeartbeats 400000 in
theorem pew_new (w : World) : Calls Try.prog 41 #[] w fun e w' => ∃ p, e = .returned (.pointer (some ⟨p, 0, none⟩)) ∧ PewAt w' (New Nil w w') p [] ∧ Frm Nil w w' := by
  go_enter Try.func41, Try.ntmps41
  go_wp2
  go_ret
  exact ⟨w.heap.size, rfl, ⟨[], ⟨rfl, fun i h => absurd h (Nat.not_lt_zero _)⟩, List.nodup_nil, by simp, by simp, .inr ⟨Nat.le_refl _, by simp⟩, heap_alloc_new w _⟩, (Frm.refl _ _).alloc _⟩

set_option maxHeartbeats 400000 in
theorem pew_len (h : PewAt w S p L) : Calls Try.prog 53 #[.pointer (some ⟨p, 0, none⟩)] w fun e w' => e = .returned (.int .i64 L.length) ∧ w = w' := by
  obtain ⟨bs, _, _, _, _, _, h6⟩ := h
  obtain ⟨_, _, c2, _⟩ := pew_cells h6
  go_enter Try.func53, Try.ntmps53
  go_wp2
  go_ret
  exact ⟨rfl, rfl⟩

set_option maxHeartbeats 400000 in
theorem pew_len_nil (w : World) : Calls Try.prog 53 #[.pointer none] w fun e w' => e = .returned (.int .i64 0) ∧ w = w' := by
  go_enter Try.func53, Try.ntmps53
  go_wp2
  go_ret
  exact ⟨rfl, rfl⟩

/-- What Add answers. -/
def addF (L : List Wtr) (x : Wtr) : Int × List Wtr := if x.g < 0 ∨ x.case_ < -1 then (1, L) else if L.length = 1024 then (5, L) else (0, L ++ [x])

theorem seats_snoc {w w' : World} {bs : List Nat} {L : List Wtr} {b : Nat} {x : Wtr} (h : SeatsAt w bs L) (hn : bs.Nodup) (hb : b ∉ bs)
    (hnew : w'.heap[b]? = some (seatRow x none)) (hlast : ∀ l, bs.getLast? = some l → ∀ y, w.heap[l]? = some (seatRow y none) → w'.heap[l]? = some (seatRow y (some b)))
    (hold : ∀ k ∈ bs, bs.getLast? ≠ some k → w'.heap[k]? = w.heap[k]?) : SeatsAt w' (bs ++ [b]) (L ++ [x]) := by
  refine ⟨by simp [h.1], fun i hi hi' => ?_⟩
  by_cases hlt : i < L.length
  · have hbl : i < bs.length := by rw [h.1]; exact hlt
    rw [List.getElem_append_left hlt, List.getElem_append_left hbl]
    have h0 := h.2 i hlt hbl
    by_cases he : i + 1 < bs.length
    · rw [List.getElem?_append_left he]
      rw [hold _ (List.getElem_mem hbl) (fun hl => ?_)]
      · exact h0
      · rw [List.getLast?_eq_getElem?, List.getElem?_eq_getElem (by omega)] at hl
        injection hl with hl
        have := (List.getElem_inj hn).1 hl
        omega
    · have hle : bs.getLast? = some bs[i] := by
        rw [List.getLast?_eq_getElem?, List.getElem?_eq_getElem (by omega)]
        congr 2
        omega
      rw [List.getElem?_eq_none (by omega)] at h0
      rw [List.getElem?_append_right (by omega), show i + 1 - bs.length = 0 by omega]
      exact hlast _ hle _ h0
  · have hil : i = L.length := by simp at hi; omega
    subst hil
    rw [List.getElem_append_right (Nat.le_refl _), List.getElem_append_right (by rw [h.1]; exact Nat.le_refl _)]
    simp only [h.1, Nat.sub_self, List.getElem_cons_zero]
    rw [List.getElem?_eq_none (by simp [h.1])]
    exact hnew

set_option maxHeartbeats 400000 in
theorem pew_add_arg (q : Option Addr) (x : Wtr) (hx : x.g < 0 ∨ x.case_ < -1) (w : World) : Calls Try.prog 60 #[.pointer q, x.agg] w fun e w' => e = .returned (.int .i64 1) ∧ Frm Nil w w' := by
  obtain ⟨g, c, v⟩ := x
  dsimp only at hx
  unfold Wtr.agg
  dsimp only
  rcases Int.lt_or_le g 0 with hg | hg
  · go_enter Try.func60, Try.ntmps60
    go_wp2
    go_ret
    exact ⟨rfl, (Frm.refl _ _).alloc _⟩
  · have hc : c < -1 := by omega
    clear hx
    go_enter Try.func60, Try.ntmps60
    go_wp2
    go_ret
    exact ⟨rfl, (Frm.refl _ _).alloc _⟩

set_option maxHeartbeats 400000 in
theorem pew_add_full (h : PewAt w S p L) (hL : L.length = 1024) (x : Wtr) (h0 : 0 ≤ x.g) (h1 : -1 ≤ x.case_) : Calls Try.prog 60 #[.pointer (some ⟨p, 0, none⟩), x.agg] w fun e w' => e = .returned (.int .i64 5) ∧ Frm Nil w w' := by
  obtain ⟨bs, hs, hn, hp, hb, hS, h6⟩ := h
  have hpl := lt_of_block h6
  obtain ⟨c0, c1, c2, cf⟩ := pew_cells h6
  rw [hL] at c2
  clear hL h6
  obtain ⟨g, cs, v⟩ := x
  dsimp only at h0 h1
  unfold Wtr.agg
  dsimp only
  go_enter Try.func60, Try.ntmps60
  go_wp2
  go_ret
  exact ⟨rfl, (Frm.refl _ _).alloc _⟩

set_option maxHeartbeats 400000 in
theorem pew_add_ok (h : PewAt w S p L) (hL : L.length < 1024) (x : Wtr) (h0 : 0 ≤ x.g) (h1 : -1 ≤ x.case_) : Calls Try.prog 60 #[.pointer (some ⟨p, 0, none⟩), x.agg] w
    fun e w' => e = .returned (.int .i64 0) ∧ PewAt w' (New S w w') p (L ++ [x]) ∧ Frm S w w' := by
  obtain ⟨bs, hs, hn, hp, hb, hS, h6⟩ := h
  have hpl := lt_of_block h6
  obtain ⟨c0, c1, c2, cf⟩ := pew_cells h6
  obtain ⟨g, cs, v⟩ := x
  dsimp only at h0 h1
  unfold Wtr.agg
  dsimp only
  obtain ⟨n, hnL⟩ : ∃ n, L.length = n := ⟨_, rfl⟩
  rw [hnL] at c2 hL h6
  have hn0 : ((n : Int) == 1024) = false := by simp; omega
  have HN := Lib.hid hnL
  have HS := Lib.hid hs
  have H6 := Lib.hid h6
  clear hnL hs h6
  rcases bs with _ | ⟨b0, bs⟩
  · have hc1 : w.cell? ⟨p, 1, none⟩ = some (.pointer none) := c1
    have hc0 : w.cell? ⟨p, 0, none⟩ = some (.pointer none) := c0
    clear c0 c1
    go_enter Try.func60, Try.ntmps60
    go_wp2
    go_ret
    refine ⟨rfl, ?_, ?_⟩
    · have hs := HS.out
      have hL0 : L = [] := List.eq_nil_of_length_eq_zero hs.1.symm
      subst hL0
      have hn := HN.out
      subst hn
      have e0 := H6.out
      have e2 := heap_old2 (.cells #[.int .i64 g, .int .i64 cs, .int .i64 v] 32) (.cells #[.int .i64 g, .int .i64 cs, .int .i64 v, .pointer none] 124) (blk_set (blk_set (blk_set e0 0 (.pointer (some ⟨w.heap.size + 1, 0, none⟩))) 1 (.pointer (some ⟨w.heap.size + 1, 0, none⟩))) 2 (.int .i64 ((0 : Int) + 1)))
      refine ⟨[w.heap.size + 1], ⟨rfl, fun i hi hi' => ?_⟩, by simp, by simp; omega, fun b hb => ?_, .inl hS, e2⟩
      · have hi0 : i = 0 := by simp at hi; omega
        subst hi0
        exact heap_new2' _ _ (by simp [World.setCell])
      · rw [List.mem_singleton] at hb
        subst hb
        exact .inr ⟨Nat.le_succ _, by simp [World.setCell]⟩
    · exact (((((Frm.refl S w).setCell (p := ⟨p, 0, none⟩) (fun _ => hS) _).setCell (p := ⟨p, 1, none⟩) (fun _ => hS) _).setCell (p := ⟨p, 2, none⟩) (fun _ => hS) _).alloc _).alloc _
  · obtain ⟨l, hl⟩ : ∃ l, (b0 :: bs).getLast? = some l := ⟨_, List.getLast?_eq_some_getLast (by simp)⟩
    have hlm : l ∈ b0 :: bs := List.mem_of_getLast? hl
    have hc1 : w.cell? ⟨p, 1, none⟩ = some (.pointer (some ⟨l, 0, none⟩)) := by rw [c1, hl]; rfl
    have hll := HS.out.lt l hlm
    have hlp : l ≠ p := fun h => hp (h ▸ hlm)
    have hlp' : p ≠ l := fun h => hp (h ▸ hlm)
    obtain ⟨y, hy⟩ : ∃ y, w.heap[l]? = some (seatRow y none) := by
      have h1 := HS.out
      rw [List.getLast?_eq_getElem?] at hl
      obtain ⟨hi, hl⟩ := List.getElem?_eq_some_iff.1 hl
      have h2 := h1.2 _ (by rw [← h1.1]; exact hi) hi
      rw [hl, List.getElem?_eq_none (by simp)] at h2
      exact ⟨_, h2⟩
    obtain ⟨_, _, _, d3, df⟩ := seat_cells hy
    have d3' : w.cell? ⟨l, 3, none⟩ = some (.pointer none) := d3
    have HL := Lib.hid hl
    have HY := Lib.hid hy
    clear c0 c1 d3 hl hy
    have HW3 : Hid (∃ W3, ((w.setCell ⟨l, 3, none⟩ (.pointer (some ⟨w.heap.size + 1, 0, none⟩))).setCell ⟨p, 1, none⟩ (.pointer (some ⟨w.heap.size + 1, 0, none⟩))).setCell ⟨p, 2, none⟩ (.int .i64 ((n : Int) + 1)) = W3 ∧
        W3.heap.size = w.heap.size ∧ Frm S w W3 ∧ W3.heap[l]? = some (seatRow y (some (w.heap.size + 1))) ∧ (∀ k, k ≠ l → k ≠ p → W3.heap[k]? = w.heap[k]?) ∧
        W3.heap[p]? = some (.cells #[ptrOf (some b0), ptrOf (some (w.heap.size + 1)), .int .i64 ((n : Int) + 1)] 120 (0, 0))) := by
      refine ⟨_, rfl, by simp [World.setCell], ?_, ?_, ?_, ?_⟩
      · exact (((Frm.refl S w).setCell (p := ⟨l, 3, none⟩) (fun _ => hb l hlm) _).setCell (p := ⟨p, 1, none⟩) (fun _ => hS) _).setCell (p := ⟨p, 2, none⟩) (fun _ => hS) _
      · exact blk_far (blk_far (blk_set (show w.heap[l]? = some (Obj.cells _ _ (0, 0)) from HY.out) 3 (.pointer (some ⟨w.heap.size + 1, 0, none⟩))) (p := ⟨p, 1, none⟩) hlp (.pointer (some ⟨w.heap.size + 1, 0, none⟩))) (p := ⟨p, 2, none⟩) hlp (.int .i64 ((n : Int) + 1))
      · intro k hkl hkp
        rw [Below.heap_setCell _ _ _ _ hkp, Below.heap_setCell _ _ _ _ hkp, Below.heap_setCell _ _ _ _ hkl]
      · exact blk_set (blk_set (blk_far H6.out (p := ⟨l, 3, none⟩) hlp' (.pointer (some ⟨w.heap.size + 1, 0, none⟩))) 1 (.pointer (some ⟨w.heap.size + 1, 0, none⟩))) 2 (.int .i64 ((n : Int) + 1))
    go_enter Try.func60, Try.ntmps60
    go_wp2
    go_ret
    obtain ⟨W3, hW, hsz, hfr, hWl, hWk, hWp⟩ := HW3.out
    rw [hW]
    clear hW HW3
    have hs := HS.out
    have hn0 := HN.out
    subst hn0
    have hnew : ((W3.alloc (.cells #[.int .i64 g, .int .i64 cs, .int .i64 v] 32)).alloc (.cells #[.int .i64 g, .int .i64 cs, .int .i64 v, .pointer none] 124)).heap[w.heap.size + 1]? = some (seatRow ⟨g, cs, v⟩ none) := heap_new2' _ _ (by rw [hsz])
    refine ⟨rfl, ⟨(b0 :: bs) ++ [w.heap.size + 1], ?_, ?_, ?_, fun b hb' => ?_, .inl hS, ?_⟩, (hfr.alloc _).alloc _⟩
    · refine seats_snoc hs hn (fun hm => by have := hs.lt _ hm; omega) hnew (fun l' hl' z hz => ?_) (fun k hk hne => ?_)
      · rw [HL.out] at hl'
        injection hl' with hl'
        subst hl'
        rw [HY.out] at hz
        injection hz with hz
        have hyz : y = z := seatRow_inj hz
        subst hyz
        exact heap_old2 _ _ hWl
      · have hkp : k ≠ p := fun h => hp (h ▸ hk)
        have hkl : k ≠ l := fun h => hne (by rw [h]; exact HL.out)
        have hkw := hs.lt k hk
        exact ((Below.heap_alloc _ _ _ (by simp; omega)).trans (Below.heap_alloc _ _ _ (by omega))).trans (hWk k hkl hkp)
    · rw [List.nodup_append]
      exact ⟨hn, by simp, fun a ha b hb' => by rw [List.mem_singleton] at hb'; subst hb'; have := hs.lt a ha; omega⟩
    · intro hm
      rcases List.mem_append.1 hm with hm | hm
      · exact hp hm
      · rw [List.mem_singleton] at hm
        omega
    · rcases List.mem_append.1 hb' with hm | hm
      · exact .inl (hb b hm)
      · rw [List.mem_singleton] at hm
        subst hm
        exact .inr ⟨Nat.le_succ _, by simp [hsz]⟩
    · have e2 := heap_old2 (.cells #[.int .i64 g, .int .i64 cs, .int .i64 v] 32) (.cells #[.int .i64 g, .int .i64 cs, .int .i64 v, .pointer none] 124) hWp
      rw [List.getLast?_append, List.length_append]
      exact e2
end

end Go.Proofs.Ytlccpbdpfamekaa
