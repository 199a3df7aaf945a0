/- Layer 8, pew: First, Take, List, Drop. -/
import Derived.Test.YtlccpbdpfamekaaPew
namespace Go.Proofs.Ytlccpbdpfamekaa
set_option linter.unusedVariables false
set_option linter.unusedSimpArgs false
open Go.RowKit

theorem SeatsAt.tail {w : World} {b : Nat} {bs : List Nat} {x : Wtr} {L : List Wtr} (h : SeatsAt w (b :: bs) (x :: L)) : SeatsAt w bs L :=
  ⟨by have := h.1; simpa using this, fun i hi hi' => h.2 (i + 1) (by simp; exact hi) (by simp; exact hi')⟩

def sliceLen : Value → Nat | .slice _ n _ => n | _ => 0

def wzero : Wtr := ⟨0, 0, 0⟩

section
variable {w : World} {S : Nat → Prop} {p : Nat} {L : List Wtr}

/-- What Len answers in whatever world behind w. -/
def LenIs (w : World) (q : Option Addr) (n : Int) : Prop := ∀ w', Frm Nil w w' → Calls Try.prog 53 #[.pointer q] w' fun e w2 => e = .returned (.int .i64 n) ∧ w' = w2

theorem len_is (h : PewAt w S p L) : LenIs w (some ⟨p, 0, none⟩) L.length := fun w' f => pew_len (h.move' f)
theorem len_is_nil (w : World) : LenIs w none 0 := fun w' _ => pew_len_nil w'

set_option maxHeartbeats 400000 in
theorem pew_first_none {q : Option Addr} (hl : LenIs w q 0) :
    Calls Try.prog 70 #[.pointer q] w fun e w' => e = .returned (.tuple #[wzero.agg, .bool false]) ∧ Frm Nil w w' := by
  go_enter Try.func70, Try.ntmps70
  go_wp2_with (go_at_call 53; refine (hl _ (by repeat (first | exact Frm.refl _ _ | apply Frm.drewN | apply Frm.drew | apply Frm.alloc | (refine Frm.then ?_ (by assumption))))).mono ?_; rintro e w' ⟨rfl, rfl⟩)
  exact bodyPost_ret (v := .tuple #[.agg #[.int .i64 0, .int .i64 0, .int .i64 0], .bool false]) (by simp [results, Try.results70, go_sem]) rfl ⟨rfl, (by repeat (first | exact Frm.refl _ _ | apply Frm.drewN | apply Frm.drew | apply Frm.alloc | (refine Frm.then ?_ (by assumption))))⟩

set_option maxHeartbeats 400000 in
theorem pew_first {x : Wtr} (h : PewAt w S p (x :: L)) :
    Calls Try.prog 70 #[.pointer (some ⟨p, 0, none⟩)] w fun e w' => e = .returned (.tuple #[x.agg, .bool true]) ∧ Frm Nil w w' := by
  have K1 := len_is h
  obtain ⟨bs, hs, hn, hp, hb, hS, h6⟩ := h
  obtain ⟨c0, c1, c2, cf⟩ := pew_cells h6
  rcases bs with _ | ⟨b0, bs⟩
  · have := hs.1; simp at this
  have hs0 := hs.2 0 (by simp) (by simp)
  obtain ⟨d0, d1, d2, d3, df⟩ := seat_cells hs0
  have hc0 : w.cell? ⟨p, 0, none⟩ = some (.pointer (some ⟨b0, 0, none⟩)) := c0
  have hbl := hs.lt b0 (by simp)
  have hpl := lt_of_block h6
  obtain ⟨g, cs, v⟩ := x
  simp only [List.getElem_cons_zero] at d0 d1 d2
  obtain ⟨n, hnn⟩ : ∃ n, ((⟨g, cs, v⟩ : Wtr) :: L).length = n := ⟨_, rfl⟩
  rw [hnn] at K1
  have hn1 : ((n : Int) == 0) = false := by
    have : n ≠ 0 := by rw [← hnn]; simp
    simpa using this
  unfold Wtr.agg
  dsimp only
  clear c0 c1 c2 d3 hs0 hs hnn h6
  go_enter Try.func70, Try.ntmps70
  go_wp2_with (go_at_call 53; refine (K1 _ (by repeat (first | exact Frm.refl _ _ | apply Frm.drewN | apply Frm.drew | apply Frm.alloc | (refine Frm.then ?_ (by assumption))))).mono ?_; rintro e w' ⟨rfl, rfl⟩)
  exact bodyPost_ret (v := .tuple #[.agg #[.int .i64 g, .int .i64 cs, .int .i64 v], .bool true]) (by simp [results, Try.results70, go_sem]) rfl ⟨rfl, (by repeat (first | exact Frm.refl _ _ | apply Frm.drewN | apply Frm.drew | apply Frm.alloc | (refine Frm.then ?_ (by assumption))))⟩

set_option maxHeartbeats 400000 in
theorem pew_take_none (h : PewAt w S p []) :
    Calls Try.prog 54 #[.pointer (some ⟨p, 0, none⟩)] w fun e w' => e = .returned (.tuple #[wzero.agg, .bool false]) ∧ PewAt w' (New S w w') p [] ∧ Frm S w w' := by
  go_enter Try.func54, Try.ntmps54
  go_wp2_with fail
  refine (pew_first_none (fun w' f => len_is h w' (Frm.then (by repeat (first | exact Frm.refl _ _ | apply Frm.drewN | apply Frm.drew | apply Frm.alloc | (refine Frm.then ?_ (by assumption)))) f))).mono ?_
  rintro e w1 ⟨rfl, f1⟩
  unfold wzero Wtr.agg
  dsimp only
  have rb := box_at f1 id
  have rl := lt_of_block rb
  have h1 := h.move' (Frm.then (Frm.alloc (Frm.refl Nil w) _) f1)
  have fw := Frm.then (Frm.alloc (Frm.refl Nil w) _) f1
  obtain ⟨r, hr⟩ : ∃ r, w.heap.size = r := ⟨_, rfl⟩
  rw [hr] at rb rl ⊢
  have r0 : w1.cell? ⟨r, 0, none⟩ = some (.int .i64 0) := row_cell rb 0 rfl
  have r1 : w1.cell? ⟨r, 1, none⟩ = some (.int .i64 0) := row_cell rb 1 rfl
  have r2 : w1.cell? ⟨r, 2, none⟩ = some (.int .i64 0) := row_cell rb 2 rfl
  have rf := row_free rb
  have HR := Lib.hid hr
  clear hr
  go_wp2_with fail
  refine bodyPost_ret (v := .tuple #[.agg #[.int .i64 0, .int .i64 0, .int .i64 0], .bool false]) (by simp [results, Try.results54, go_sem, r0, r1, r2, rl]) rfl ?_
  have HW : Hid (∃ W, ((w1.setCell ⟨r, 0, none⟩ (.int .i64 0)).setCell ⟨r, 1, none⟩ (.int .i64 0)).setCell ⟨r, 2, none⟩ (.int .i64 0) = W ∧ Frm (fun k => k = r) w1 W) := by
    have f0 : Frm (fun k => k = r) w1 w1 := Frm.refl _ _
    exact ⟨_, rfl, ((f0.setCell (p := ⟨r, 0, none⟩) (fun _ => rfl) (.int .i64 0)).setCell (p := ⟨r, 1, none⟩) (fun _ => rfl) (.int .i64 0)).setCell (p := ⟨r, 2, none⟩) (fun _ => rfl) (.int .i64 0)⟩
  obtain ⟨W, hW, hfr⟩ := HW.out
  rw [hW]
  clear hW HW
  have hbd := h.bound
  have hfw : Frm Nil w W := fw.trans hfr (fun x hx e => by have := HR.out; omega)
  exact ⟨rfl, (h.move' (hfw.alloc _)).mono (fun k hk => .inl hk), (hfw.alloc _).nil⟩

set_option maxHeartbeats 400000 in
theorem pew_take {x : Wtr} (h : PewAt w S p (x :: L)) (hLn : L.length < 1000000) :
    Calls Try.prog 54 #[.pointer (some ⟨p, 0, none⟩)] w fun e w' => e = .returned (.tuple #[x.agg, .bool true]) ∧ PewAt w' (New S w w') p L ∧ Frm S w w' := by
  obtain ⟨g, cs, v⟩ := x
  unfold Wtr.agg
  dsimp only
  go_enter Try.func54, Try.ntmps54
  go_wp2_with fail
  refine (pew_first (h.move' (by repeat (first | exact Frm.refl _ _ | apply Frm.drewN | apply Frm.drew | apply Frm.alloc | (refine Frm.then ?_ (by assumption)))))).mono ?_
  rintro e w1 ⟨rfl, f1⟩
  unfold Wtr.agg
  dsimp only
  have rb := box_at f1 id
  have rl := lt_of_block rb
  have fw := Frm.then (Frm.alloc (Frm.refl Nil w) _) f1
  obtain ⟨bs, hs', hn, hp, hb, hS, h6'⟩ := h
  have hs := hs'.move (fun b hb => fw.block b (hs'.lt b hb) id)
  have h6 := fw.blk h6' id
  have hpr := lt_of_block h6'
  have hbr := hs'.lt
  clear hs' h6'
  obtain ⟨r, hr⟩ : ∃ r, w.heap.size = r := ⟨_, rfl⟩
  rw [hr] at rb rl hpr hbr ⊢
  have r0 : w1.cell? ⟨r, 0, none⟩ = some (.int .i64 0) := row_cell rb 0 rfl
  have r1 : w1.cell? ⟨r, 1, none⟩ = some (.int .i64 0) := row_cell rb 1 rfl
  have r2 : w1.cell? ⟨r, 2, none⟩ = some (.int .i64 0) := row_cell rb 2 rfl
  have rf := row_free rb
  have HR := Lib.hid hr
  clear hr
  obtain ⟨c0, c1, c2, cf⟩ := pew_cells h6
  rcases bs with _ | ⟨b0, bs⟩
  · have := hs.1; simp at this
  have hs0 := hs.2 0 (by simp) (by simp)
  obtain ⟨d0, d1, d2, d3, df⟩ := seat_cells hs0
  have hc0 : w1.cell? ⟨p, 0, none⟩ = some (.pointer (some ⟨b0, 0, none⟩)) := c0
  have hbl := hs.lt b0 (by simp)
  have hpl := lt_of_block h6
  have hbr0 := hbr b0 (by simp)
  have n1 : p ≠ r := by omega
  have n2 : b0 ≠ r := by omega
  have n3 : p ≠ b0 := fun h => hp (by rw [h]; simp)
  have n1' : r ≠ p := by omega
  have n2' : r ≠ b0 := by omega
  have n3' : b0 ≠ p := fun h => n3 h.symm
  simp only [List.getElem_cons_zero] at d0 d1 d2 d3
  simp only [List.length_cons] at c2
  obtain ⟨n, hnn⟩ : ∃ n, L.length = n := ⟨_, rfl⟩
  rw [hnn] at c2
  have hc2 : w1.cell? ⟨p, 2, none⟩ = some (.int .i64 ((n : Int) + 1)) := by rw [c2]; simp
  have hnm : n < 9223372036854775807 := by omega
  have HN := Lib.hid hnn
  have HS := Lib.hid hs
  have H6 := Lib.hid h6
  have HBR := Lib.hid hbr
  clear c0 c2 hs h6 hs0 hnn hbr
  rcases bs with _ | ⟨b1, bs⟩
  · have d3' : w1.cell? ⟨b0, 3, none⟩ = some (.pointer none) := d3
    clear d3
    have HW : Hid (∃ W, (((((w1.setCell ⟨p, 0, none⟩ (.pointer none)).setCell ⟨p, 2, none⟩ (.int .i64 (n : Int))).setCell ⟨p, 1, none⟩ (.pointer none)).setCell ⟨r, 0, none⟩ (.int .i64 g)).setCell ⟨r, 1, none⟩ (.int .i64 cs)).setCell ⟨r, 2, none⟩ (.int .i64 v) = W ∧ W.heap.size = w1.heap.size ∧ Frm S w W ∧ (∀ k, k ≠ p → k ≠ r → W.heap[k]? = w1.heap[k]?) ∧
        W.heap[p]? = some (.cells #[ptrOf none, ptrOf none, .int .i64 (n : Int)] 120 (0, 0))) :=
      ⟨_, rfl, by simp [World.setCell], ((((((fw.nil (S := S)).setCell (p := ⟨p, 0, none⟩) (fun _ => hS) (.pointer none)).setCell (p := ⟨p, 2, none⟩) (fun _ => hS) (.int .i64 (n : Int))).setCell (p := ⟨p, 1, none⟩) (fun _ => hS) (.pointer none)).setCell (p := ⟨r, 0, none⟩) (fun h => absurd h (by rw [HR.out]; exact Nat.lt_irrefl r)) (.int .i64 g)).setCell (p := ⟨r, 1, none⟩) (fun h => absurd h (by rw [HR.out]; exact Nat.lt_irrefl r)) (.int .i64 cs)).setCell (p := ⟨r, 2, none⟩) (fun h => absurd h (by rw [HR.out]; exact Nat.lt_irrefl r)) (.int .i64 v), fun k hkp hkr => by rw [Below.heap_setCell _ _ _ _ hkr, Below.heap_setCell _ _ _ _ hkr, Below.heap_setCell _ _ _ _ hkr, Below.heap_setCell _ _ _ _ hkp, Below.heap_setCell _ _ _ _ hkp, Below.heap_setCell _ _ _ _ hkp], (blk_far (blk_far (blk_far (blk_set (blk_set (blk_set H6.out 0 (.pointer none)) 2 (.int .i64 (n : Int))) 1 (.pointer none)) (p := ⟨r, 0, none⟩) n1 (.int .i64 g)) (p := ⟨r, 1, none⟩) n1 (.int .i64 cs)) (p := ⟨r, 2, none⟩) n1 (.int .i64 v))⟩
    go_wp2_with fail
    refine bodyPost_ret (v := .tuple #[.agg #[.int .i64 g, .int .i64 cs, .int .i64 v], .bool true]) (by simp [results, Try.results54, go_sem, r0, r1, r2, rl, n1, n1']) rfl ?_
    obtain ⟨W, hW, hsz, hfr, hWk, hWp⟩ := HW.out
    rw [hW]
    clear hW HW
    have hn0 := HN.out
    have ht := HS.out.tail
    refine ⟨rfl, ⟨[], ht.move (fun b hb' => ?_), (List.nodup_cons.1 hn).2, fun hm => hp (List.mem_cons_of_mem _ hm), fun b hb' => .inl (hb b (List.mem_cons_of_mem _ hb')), .inl hS, ?_⟩, hfr.alloc _⟩
    · have hbl := ht.lt b hb'
      exact (Below.heap_alloc _ _ _ (by rw [hsz]; exact hbl)).trans (hWk b (fun h => hp (by rw [← h]; exact List.mem_cons_of_mem _ hb')) (fun h => by have := HBR.out b (List.mem_cons_of_mem _ hb'); omega))
    · refine (Below.heap_alloc _ _ _ (by rw [hsz]; exact hpl)).trans ?_
      rw [hWp, hn0]
      rfl
  · have d3' : w1.cell? ⟨b0, 3, none⟩ = some (.pointer (some ⟨b1, 0, none⟩)) := d3
    clear d3
    have HW : Hid (∃ W, ((((w1.setCell ⟨p, 0, none⟩ (.pointer (some ⟨b1, 0, none⟩))).setCell ⟨p, 2, none⟩ (.int .i64 (n : Int))).setCell ⟨r, 0, none⟩ (.int .i64 g)).setCell ⟨r, 1, none⟩ (.int .i64 cs)).setCell ⟨r, 2, none⟩ (.int .i64 v) = W ∧ W.heap.size = w1.heap.size ∧ Frm S w W ∧ (∀ k, k ≠ p → k ≠ r → W.heap[k]? = w1.heap[k]?) ∧
        W.heap[p]? = some (.cells #[ptrOf (some b1), ptrOf (b0 :: b1 :: bs).getLast?, .int .i64 (n : Int)] 120 (0, 0))) :=
      ⟨_, rfl, by simp [World.setCell], (((((fw.nil (S := S)).setCell (p := ⟨p, 0, none⟩) (fun _ => hS) (.pointer (some ⟨b1, 0, none⟩))).setCell (p := ⟨p, 2, none⟩) (fun _ => hS) (.int .i64 (n : Int))).setCell (p := ⟨r, 0, none⟩) (fun h => absurd h (by rw [HR.out]; exact Nat.lt_irrefl r)) (.int .i64 g)).setCell (p := ⟨r, 1, none⟩) (fun h => absurd h (by rw [HR.out]; exact Nat.lt_irrefl r)) (.int .i64 cs)).setCell (p := ⟨r, 2, none⟩) (fun h => absurd h (by rw [HR.out]; exact Nat.lt_irrefl r)) (.int .i64 v), fun k hkp hkr => by rw [Below.heap_setCell _ _ _ _ hkr, Below.heap_setCell _ _ _ _ hkr, Below.heap_setCell _ _ _ _ hkr, Below.heap_setCell _ _ _ _ hkp, Below.heap_setCell _ _ _ _ hkp], (blk_far (blk_far (blk_far (blk_set (blk_set H6.out 0 (.pointer (some ⟨b1, 0, none⟩))) 2 (.int .i64 (n : Int))) (p := ⟨r, 0, none⟩) n1 (.int .i64 g)) (p := ⟨r, 1, none⟩) n1 (.int .i64 cs)) (p := ⟨r, 2, none⟩) n1 (.int .i64 v))⟩
    go_wp2_with fail
    refine bodyPost_ret (v := .tuple #[.agg #[.int .i64 g, .int .i64 cs, .int .i64 v], .bool true]) (by simp [results, Try.results54, go_sem, r0, r1, r2, rl, n1, n1']) rfl ?_
    obtain ⟨W, hW, hsz, hfr, hWk, hWp⟩ := HW.out
    rw [hW]
    clear hW HW
    have hn0 := HN.out
    have ht := HS.out.tail
    refine ⟨rfl, ⟨b1 :: bs, ht.move (fun b hb' => ?_), (List.nodup_cons.1 hn).2, fun hm => hp (List.mem_cons_of_mem _ hm), fun b hb' => .inl (hb b (List.mem_cons_of_mem _ hb')), .inl hS, ?_⟩, hfr.alloc _⟩
    · have hbl := ht.lt b hb'
      exact (Below.heap_alloc _ _ _ (by rw [hsz]; exact hbl)).trans (hWk b (fun h => hp (by rw [← h]; exact List.mem_cons_of_mem _ hb')) (fun h => by have := HBR.out b (List.mem_cons_of_mem _ hb'); omega))
    · refine (Below.heap_alloc _ _ _ (by rw [hsz]; exact hpl)).trans ?_
      rw [hWp, hn0]
      rfl


theorem infoW : (Try.prog.info? 32).map (fun i => (i.zero, i.size, i.bytes)) = some (some (.agg #[.int .i64 0, .int .i64 0, .int .i64 0]), 3, 24) := by kernel_rfl

theorem take_one {α : Type} (f : α → List Value) (L : List α) (k : Nat) (h : k < L.length) : (L.take (k + 1)).flatMap f = (L.take k).flatMap f ++ f L[k] := by
  rw [List.take_succ_eq_append_getElem h, flat_one]

/-- A slice of the waiters L comes back, new. -/
def Wtrs (w : World) (L : List Wtr) : Ending → World → Prop := fun e w' => ∃ a cap, e = .returned (.slice a L.length cap) ∧ Rd w' 3 a L.length (L.flatMap Wtr.cells) ∧ (∀ b o, a = some ⟨b, o, none⟩ → w.heap.size ≤ b) ∧ Frm Nil w w'

set_option maxRecDepth 100000 in
set_option maxHeartbeats 400000 in
theorem pew_list_nil (w : World) : Calls Try.prog 50 #[.pointer none] w fun e w' => e = .returned (.slice none 0 0) ∧ w = w' := by
  go_enter Try.func50, Try.ntmps50
  go_wp2
  go_ret
  exact ⟨rfl, rfl⟩

set_option maxRecDepth 100000 in
set_option maxHeartbeats 400000 in
theorem pew_list (h : PewAt w S p L) (hL : L.length ≤ 100000) : Calls Try.prog 50 #[.pointer (some ⟨p, 0, none⟩)] w (Wtrs w L) := by
  obtain ⟨bs, hs, hn, hp, hb, hS, h6⟩ := h
  obtain ⟨c0, c1, c2, cf⟩ := pew_cells h6
  have hfst : ptrOf bs.head? = ptrOf bs[0]? := by rw [List.head?_eq_getElem?]
  rw [hfst] at c0
  clear hfst
  obtain ⟨a0, ha0⟩ : ∃ a0, ptrOf bs[0]? = .pointer a0 := ⟨_, rfl⟩
  rw [ha0] at c0
  have HA := Lib.hid ha0
  clear ha0
  go_enter Try.func50, Try.ntmps50
  go_wp2
  go_loopw [3, 4] (fun v sp wr => ∃ k : Nat, k ≤ L.length ∧ Hid (sp = ptrOf bs[k]?) ∧ (∃ a, sp = .pointer a) ∧ Frm Nil w wr ∧ ColC 32 3 w.heap.size wr v k ((L.take k).flatMap Wtr.cells)) (fun v _ _ => L.length - sliceLen v)
  case atStart => exact ⟨0, Nat.zero_le _, HA.out.symm, ⟨_, rfl⟩, Frm.refl _ _, ColC.nil _ _ _ _⟩
  case round =>
    obtain ⟨k, hk, hsp, ⟨ak, rfl⟩, hfr, hcol⟩ := hrel
    obtain ⟨va, vc, rfl, _⟩ := hcol.rd
    by_cases hlt : k < L.length
    · have hkb : k < bs.length := by rw [hs.1]; exact hlt
      have e0 := hsp.out
      rw [List.getElem?_eq_getElem hkb] at e0
      obtain ⟨b, hbk⟩ : ∃ b, bs[k] = b := ⟨_, rfl⟩
      have hbw := hs.lt _ (List.getElem_mem hkb)
      have hsr := hfr.blk (hs.2 k hlt hkb) id
      rw [hbk] at e0 hsr hbw
      obtain rfl : ak = some ⟨b, 0, none⟩ := by injection e0
      obtain ⟨x, hx⟩ : ∃ x, L[k] = x := ⟨_, rfl⟩
      rw [hx] at hsr
      obtain ⟨a1, ha1⟩ : ∃ a1, ptrOf bs[k + 1]? = .pointer a1 := ⟨_, rfl⟩
      obtain ⟨d0, d1, d2, d3, df⟩ := seat_cells hsr
      rw [ha1] at d3
      have hbl := lt_of_block hsr
      have htk := take_one Wtr.cells L k hlt
      rw [hx] at htk
      obtain ⟨g, cs, v⟩ := x
      dsimp only at d0 d1 d2
      have HT := Lib.hid htk
      have HA1 := Lib.hid ha1
      have HSR := Lib.hid hsr
      clear htk ha1 e0 hsp hbk hx hsr
      go_wp2_with (at_builtin; go_must (refine colc_app rfl _ _ 36 _ 24 rfl Try.underlying36 infoW rfl (by decide) (.slice va k vc) k _ [.int .i64 g, .int .i64 cs, .int .i64 v] rfl rfl (by simp) rfl rfl hcol hfr rfl (by omega) (by decide) ?_); intro v1 w1 hcol1 hfr1 hfr2; have hsr1 := hfr2.blk HSR.out (fun h => by unfold From at h; omega); obtain ⟨_, _, _, d3', _⟩ := seat_cells hsr1; rw [HA1.out] at d3')
      go_roundw
      case rel => exact ⟨k + 1, by omega, HA1.out.symm, ⟨_, rfl⟩, hfr1, by rw [HT.out]; exact hcol1⟩
      case measure =>
        obtain ⟨a9, c9, e9, _⟩ := hcol1.rd
        rw [e9]
        simp [sliceLen]
        omega
    · have hkn : k = L.length := by omega
      have e0 := hsp.out
      rw [List.getElem?_eq_none (by rw [hs.1]; omega)] at e0
      obtain rfl : ak = none := by injection e0
      clear e0 hsp
      have HK := Lib.hid hkn
      clear hkn
      go_wp2
      go_ret
      have hkn := HK.out
      subst hkn
      obtain ⟨a9, c9, e9, h9⟩ := hcol.rd
      rw [List.take_length] at h9
      injection e9 with e9 _ e10
      subst e9
      exact ⟨_, _, rfl, h9, fun b o hb => hcol.2 b (by rw [hb]; rfl), hfr⟩
end

end Go.Proofs.Ytlccpbdpfamekaa
