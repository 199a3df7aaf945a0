/- Layer 11's reference: what its methods do, said of the same lists. -/
import Derived.Test.YtlfboploganglaaLaws11b
namespace Go.Proofs.Ytlfboploganglaa
set_option linter.unusedVariables false
set_option linter.unusedSimpArgs false
open Go.RowKit

abbrev RefAt := OnesAt 42 47

/-- A method that changes a reference crew answers r, and it is L' then. -/
def RefPost (S : Nat → Prop) (c : Nat) (w : World) (r : Value) (L' : List One) : Ending → World → Prop :=
  fun e w' => e = .returned r ∧ RefAt w' (New S w w') c L' ∧ Frm S w w'

theorem infoRef : (Try.prog.info? 47).map (fun i => (i.zero, i.size, i.bytes)) = some (some (.agg #[.int .i64 0, .int .i64 0, .int .i64 0]), 3, 24) := by kernel_rfl

section
variable {w : World} {S : Nat → Prop} {c : Nat} {L : List One}

set_option maxHeartbeats 400000 in
theorem has_any (h : RefAt w S c L) (g : Int) : Calls Try.prog 20 #[.pointer (some ⟨c, 0, none⟩), .int .i64 g] w fun e w' => e = .returned (.bool (stateF L g).2) ∧ Frm Nil w w' := by
  obtain ⟨a, cap, hc, hf, hm, _⟩ := h.cells
  unfold maxLen at hm
  have key : (stateF L g).2 = (decide (0 ≤ g) && decide (g < L.length)) := by
    unfold stateF
    by_cases h0 : 0 ≤ g
    · rw [if_pos h0]
      by_cases h1 : g < L.length
      · rw [List.getElem?_eq_getElem (by omega)]
        simp [h0, h1]
      · rw [List.getElem?_eq_none (by omega)]
        simp [h1]
    · rw [if_neg h0]
      simp [h0]
  rw [key]
  go_enter Try.func20, Try.ntmps20
  go_wp2
  all_goals (go_ret; exact ⟨ret_bool (by first | rfl | (simp; omega) | simp), Frm.refl _ _⟩)

set_option maxHeartbeats 400000 in
theorem rspawn_arg (p : Option Addr) (pr : Int) (h0 : pr < 0) (w : World) : Calls Try.prog 28 #[.pointer p, .int .i64 pr] w
    fun e w' => e = .returned (.tuple #[.int .i64 0, .int .i64 1]) ∧ w = w' := by
  go_enter Try.func28, Try.ntmps28
  go_wp2
  go_ret2
  exact ⟨rfl, rfl⟩

set_option maxHeartbeats 400000 in
theorem rspawn_full (h : RefAt w S c L) (hL : L.length = 512) (pr : Int) (h0 : 0 ≤ pr) : Calls Try.prog 28 #[.pointer (some ⟨c, 0, none⟩), .int .i64 pr] w
    fun e w' => e = .returned (.tuple #[.int .i64 0, .int .i64 5]) ∧ w = w' := by
  obtain ⟨a, cap, hc, _, _, _⟩ := h.cells
  rw [hL] at hc
  clear hL
  go_enter Try.func28, Try.ntmps28
  go_wp2
  go_ret2
  exact ⟨rfl, rfl⟩

set_option maxRecDepth 100000 in
set_option maxHeartbeats 400000 in
theorem rspawn_ok (h : RefAt w S c L) (hL : L.length < 512) (pr : Int) (h0 : 0 ≤ pr) : Calls Try.prog 28 #[.pointer (some ⟨c, 0, none⟩), .int .i64 pr] w
    (RefPost S c w (.tuple #[.int .i64 L.length, .int .i64 0]) (L ++ [⟨pr, 0, 0⟩])) := by
  obtain ⟨v, h1, h2, h3, h4⟩ := h
  obtain ⟨a, cap, rfl⟩ := own_form h2
  have hc := cell_of_one h1
  have hf := free_of_one h1
  go_enter Try.func28, Try.ntmps28
  go_wp2_with (at_builtin; go_must (refine app_one rfl _ _ 40 47 _ 3 24 rfl Try.underlying40 infoRef rfl (by decide) (.slice a L.length cap) L.length _ [.int .i64 pr, .int .i64 0, .int .i64 0] rfl rfl (by simp) rfl rfl h2 (by omega) (by decide) ?_); intro g' c' w1 hown hfrm hat; have hb1 := hfrm.blk h1 (fun hk => (h4 _ hk).2 rfl); have hc1 := cell_of_one hb1; have hf1 := free_of_one hb1)
  go_ret2
  have hgc : g' ≠ c := by
    rcases hat with hat | hat
    · exact (h4 _ hat).2
    · have := lt_of_block h1
      omega
  refine ⟨rfl, ⟨_, one_setCell hb1, ?_, .inl h3, fun k hk => ?_⟩, ?_⟩
  · rw [List.length_append, List.length_singleton, flat_one]
    exact own_move hown (fun k hk => Below.heap_setCell _ _ _ _ (by rintro rfl; injection hk with hk; exact hgc hk))
  · injection hk with hk
    dsimp only at hk
    subst hk
    refine ⟨?_, hgc⟩
    rcases hat with hat | hat
    · exact .inl (h4 _ hat).1
    · exact .inr ⟨hat, by simpa [World.setCell] using own_lt hown rfl⟩
  · exact ((hfrm.mono (fun k hk hs => (h4 k hs).1)).setCell (fun _ => h3) _)

set_option maxRecDepth 100000 in
set_option maxHeartbeats 400000 in
theorem rable_any (h : RefAt w S c L) (hL : L.length ≤ 512) : Calls Try.prog 24 #[.pointer (some ⟨c, 0, none⟩)] w (Ints w (ableF L)) := by
  obtain ⟨a, cap, hc, hf, hm, hcells⟩ := h.cells
  unfold maxLen at hm
  go_enter Try.func24, Try.ntmps24
  go_wp2
  go_loopw [3, 11] (fun v i wr => ∃ k : Nat, k ≤ L.length ∧ i = .int .i64 k ∧ Frm Nil w wr ∧ Col w.heap.size wr v (inF L 0 k)) (fun _ i _ => L.length - (intOf i).toNat)
  case atStart => exact ⟨0, Nat.zero_le _, rfl, Frm.refl _ _, Col.nil _ _⟩
  case round =>
    obtain ⟨k, hk, rfl, hfr, hcol⟩ := hrel
    by_cases hlt : k < L.length
    · obtain ⟨b, rfl, hSb, hbc, hfz, hcells2⟩ := hcells (by omega)
      obtain ⟨hp, hpl, hst⟩ := hcells2 k hlt
      have hbl := World.block_lt_of_cell? w _ hp
      dsimp only at hbl
      rw [← hfr.cell (p := ⟨b, k * 3, none⟩) hbl id] at hp
      rw [← hfr.cell (p := ⟨b, k * 3 + 1, none⟩) hbl id] at hpl
      rw [← hfr.cell (p := ⟨b, k * 3 + 2, none⟩) hbl id] at hst
      have hll := inF_length L 0 k
      have hget : L[k]? = some L[k] := List.getElem?_eq_getElem hlt
      have hcomes : inF L 0 (k + 1) = inF L 0 k ++ (if L[k].state = 0 then [(k : Int)] else []) := by rw [inF, hget]
      obtain ⟨x, hx0⟩ : ∃ x, L[k] = x := ⟨_, rfl⟩
      rw [hx0] at hst hcomes hp hpl
      obtain ⟨pr, pl, st⟩ := x
      dsimp only at hp hpl hst hcomes
      have HC := Lib.hid hcomes
      clear hcomes hcells2 hget hcells hx0
      have hfrA := hfr.alloc (.cells #[.int .i64 pr, .int .i64 pl, .int .i64 st] 47)
      have hcolA := hcol.move (w' := wr.alloc (.cells #[.int .i64 pr, .int .i64 pl, .int .i64 st] 47)) (fun k _ hk => Below.heap_alloc _ _ _ hk)
      by_cases hs : st = 0
      · have hb0 : (st == 0) = true := by simpa using hs
        have HS := Lib.hid hs
        clear hs
        go_wp2_with (at_builtin; go_must (refine col_app rfl _ _ rfl u3 _ (k : Int) rfl rfl (by simp) hcolA hfrA rfl (by omega) ?_); intro v1 w1 hcol1 hfr1)
        go_roundw
        case rel => exact ⟨k + 1, by omega, by go_num, hfr1, by rw [HC.out, if_pos HS.out]; exact hcol1⟩
        case measure => simp [intOf]; omega
      · have hb0 : (st == 0) = false := by simpa using hs
        go_wp2
        go_roundw
        case rel => exact ⟨k + 1, by omega, by go_num, hfrA, by rw [HC.out, if_neg hs, List.append_nil]; exact hcolA⟩
        case measure => simp [intOf]; omega
    · go_wp2
      go_ret
      have hkn : k = L.length := by omega
      subst hkn
      obtain ⟨a3, cap3, rfl, hrd⟩ := hcol.rd
      exact ⟨a3, cap3, _, rfl, hrd, hfr⟩

/-- The verdict, by one look at each. -/
def overG (L : List One) : Nat → Int
  | 0 => 1
  | k + 1 => match L[k]? with | none => overG L k | some x => if x.state = 1 then 2 else overG L k

theorem inF_nil {L : List One} {s : Int} : ∀ {k : Nat}, k ≤ L.length → (∀ i (h : i < k) (h' : i < L.length), L[i].state ≠ s) → inF L s k = []
  | 0, _, _ => rfl
  | k + 1, hk, h => by
    rw [inF, inF_nil (k := k) (by omega) (fun i hi h' => h i (by omega) h'), List.getElem?_eq_getElem (by omega)]
    simp [h k (by omega) (by omega)]

theorem inF_pos {L : List One} {s : Int} {i : Nat} (hi : i < L.length) (hs : L[i].state = s) : ∀ {k : Nat}, i < k → k ≤ L.length → 0 < (inF L s k).length
  | 0, h, _ => absurd h (Nat.not_lt_zero _)
  | k + 1, h, hk => by
    rw [inF, List.length_append]
    by_cases hik : i = k
    · subst hik
      rw [List.getElem?_eq_getElem hi]
      simp [hs]
    · have := inF_pos hi hs (k := k) (by omega) (by omega)
      omega

theorem overG_cases (L : List One) : ∀ k, k ≤ L.length → (overG L k = 2 ∧ 0 < (inF L 1 k).length) ∨ (overG L k = 1 ∧ (inF L 1 k).length = 0)
  | 0, _ => .inr ⟨rfl, rfl⟩
  | k + 1, hk => by
    rw [overG, inF, List.length_append, List.getElem?_eq_getElem (show k < L.length by omega)]
    dsimp only
    by_cases h : L[k].state = 1
    · rw [if_pos h, if_pos h]
      exact .inl ⟨rfl, by simp⟩
    · rw [if_neg h, if_neg h]
      simpa using overG_cases L k (by omega)

set_option maxRecDepth 100000 in
set_option maxHeartbeats 400000 in
theorem rover_any (h : RefAt w S c L) : Calls Try.prog 22 #[.pointer (some ⟨c, 0, none⟩)] w fun e w' => e = .returned (.int .i64 (overF L)) ∧ Frm Nil w w' := by
  obtain ⟨a, cap, hc, hf, hm, hcells⟩ := h.cells
  unfold maxLen at hm
  go_enter Try.func22, Try.ntmps22
  go_wp2
  go_loopw [3, 11] (fun v i wr => ∃ k : Nat, k ≤ L.length ∧ i = .int .i64 k ∧ Frm Nil w wr ∧ v = .int .i64 (overG L k) ∧ Hid (∀ i (_ : i < k) (h' : i < L.length), L[i].state ≠ 0)) (fun _ i _ => L.length - (intOf i).toNat)
  case atStart => exact ⟨0, Nat.zero_le _, rfl, Frm.refl _ _, rfl, fun i h => absurd h (Nat.not_lt_zero _)⟩
  case round =>
    obtain ⟨k, hk, rfl, hfr, rfl, hno⟩ := hrel
    by_cases hlt : k < L.length
    · obtain ⟨b, rfl, hSb, hbc, hfz, hcells2⟩ := hcells (by omega)
      obtain ⟨hp, hpl, hst⟩ := hcells2 k hlt
      have hbl := World.block_lt_of_cell? w _ hp
      dsimp only at hbl
      rw [← hfr.cell (p := ⟨b, k * 3, none⟩) hbl id] at hp
      rw [← hfr.cell (p := ⟨b, k * 3 + 1, none⟩) hbl id] at hpl
      rw [← hfr.cell (p := ⟨b, k * 3 + 2, none⟩) hbl id] at hst
      have hcomes : overG L (k + 1) = if L[k].state = 1 then 2 else overG L k := by rw [overG, List.getElem?_eq_getElem hlt]
      have hno' : L[k].state ≠ 0 → ∀ i (_ : i < k + 1) (h' : i < L.length), L[i].state ≠ 0 := fun hne i hi h' => by
        by_cases hik : i = k
        · subst hik; exact hne
        · exact hno.out i (by omega) h'
      have hyes : L[k].state = 0 → overF L = 0 := fun h0 => by
        unfold overF ableF
        rw [if_pos (inF_pos hlt h0 hlt (Nat.le_refl _))]
      have HN := Lib.hid hno'
      have HY := Lib.hid hyes
      obtain ⟨x, hx0⟩ : ∃ x, L[k] = x := ⟨_, rfl⟩
      rw [hx0] at hst hcomes hp hpl HN HY
      obtain ⟨pr, pl, st⟩ := x
      dsimp only at hp hpl hst hcomes HN HY
      have HC := Lib.hid hcomes
      obtain ⟨o, ho⟩ : ∃ o, overG L k = o := ⟨_, rfl⟩
      rw [ho] at HC ⊢
      clear hcomes hcells2 hcells hx0 hno' hyes ho
      have hfrA := hfr.alloc (.cells #[.int .i64 pr, .int .i64 pl, .int .i64 st] 47)
      by_cases hs : st = 0
      · have hb0 : (st == 0) = true := by simpa using hs
        have HS := Lib.hid hs
        clear hs
        go_wp2
        go_ret
        exact ⟨ret_int (HY.out HS.out).symm, hfrA⟩
      · have hb0 : (st == 0) = false := by simpa using hs
        by_cases h1 : st = 1
        · have hb1 : (st == 1) = true := by simpa using h1
          have H1 := Lib.hid h1
          have HS := Lib.hid hs
          clear h1 hs
          go_wp2
          go_roundw
          case rel => exact ⟨k + 1, by omega, by go_num, hfrA, by rw [HC.out, if_pos H1.out], HN.out HS.out⟩
          case measure => simp [intOf]; omega
        · have hb1 : (st == 1) = false := by simpa using h1
          go_wp2
          go_roundw
          case rel => exact ⟨k + 1, by omega, by go_num, hfrA, by rw [HC.out, if_neg h1], HN.out hs⟩
          case measure => simp [intOf]; omega
    · go_wp2
      go_ret
      have hkn : k = L.length := by omega
      subst hkn
      refine ⟨ret_int ?_, hfr⟩
      unfold overF ableF
      rw [inF_nil (Nat.le_refl _) (fun i hi h' => hno.out i hi h')]
      rcases overG_cases L L.length (Nat.le_refl _) with ⟨h1, h2⟩ | ⟨h1, h2⟩
      · rw [h1, if_neg (by simp), if_pos h2]
      · rw [h1, if_neg (by simp), if_neg (by omega)]

set_option maxHeartbeats 400000 in
theorem rturn_none (h : RefAt w S c L) (g fr to : Int) (hs : (stateF L g).2 = false) : Calls Try.prog 29 #[.pointer (some ⟨c, 0, none⟩), .int .i64 g, .int .i64 fr, .int .i64 to] w fun e w' => e = .returned (.int .i64 6) ∧ Frm Nil w w' := by
  have hh := has_any h g
  rw [hs] at hh
  have H := Lib.hid hh
  clear hh hs
  go_enter Try.func29, Try.ntmps29
  go_wp2_with fail
  refine H.out.mono ?_
  rintro e w1 ⟨rfl, f1⟩
  go_wp2_with fail
  go_ret
  exact ⟨rfl, f1⟩

set_option maxHeartbeats 400000 in
theorem rturn_state (h : RefAt w S c L) (fr to : Int) (k : Nat) (hk : k < L.length) (hs : L[k].state ≠ fr) : Calls Try.prog 29 #[.pointer (some ⟨c, 0, none⟩), .int .i64 k, .int .i64 fr, .int .i64 to] w fun e w' => e = .returned (.int .i64 7) ∧ Frm Nil w w' := by
  have hh := has_any h k
  rw [show (stateF L k).2 = true by unfold stateF; rw [if_pos (by omega), Int.toNat_natCast, List.getElem?_eq_getElem hk]] at hh
  have H := Lib.hid hh
  clear hh
  go_enter Try.func29, Try.ntmps29
  go_wp2_with fail
  refine H.out.mono ?_
  rintro e w1 ⟨rfl, f1⟩
  have h1 : RefAt w1 S c L := h.bound.move' f1
  obtain ⟨a, cap, hc, hf, hm, hcells⟩ := h1.cells
  obtain ⟨b, rfl, hSb, hbc, hfz, hcells⟩ := hcells (by omega)
  obtain ⟨_, _, h3⟩ := hcells k hk
  unfold maxLen at hm
  obtain ⟨st, hst⟩ : ∃ st, L[k].state = st := ⟨_, rfl⟩
  rw [hst] at h3 hs
  have hb : (st != fr) = true := by simpa using hs
  clear hcells hst hs
  go_wp2_with fail
  go_ret
  exact ⟨rfl, f1⟩

def byOf (fr to : Int) : Int := if fr = 1 ∨ (fr = 0 ∧ to = 0) then 1 else 0

set_option maxHeartbeats 400000 in
theorem rturn_ok (h : RefAt w S c L) (fr to : Int) (k : Nat) (hk : k < L.length) (hs : L[k].state = fr) (h0 : 0 ≤ L[k].place) (hp : L[k].place ≤ 100000000) (hfr : (fr = 0 ∧ to = 0) ∨ (fr = 0 ∧ to = 1) ∨ (fr = 1 ∧ to = 0) ∨ (fr = 0 ∧ to = 2)) :
    Calls Try.prog 29 #[.pointer (some ⟨c, 0, none⟩), .int .i64 k, .int .i64 fr, .int .i64 to] w (RefPost S c w (.int .i64 0) (L.set k ⟨L[k].program, L[k].place + byOf fr to, to⟩)) := by
  have hh := has_any h k
  rw [show (stateF L k).2 = true by unfold stateF; rw [if_pos (by omega), Int.toNat_natCast, List.getElem?_eq_getElem hk]] at hh
  have H := Lib.hid hh
  clear hh
  rcases hfr with ⟨rfl, rfl⟩ | ⟨rfl, rfl⟩ | ⟨rfl, rfl⟩ | ⟨rfl, rfl⟩
  · rw [show byOf 0 0 = 1 from rfl]
    go_enter Try.func29, Try.ntmps29
    go_wp2_with fail
    refine H.out.mono ?_
    rintro e w1 ⟨rfl, f1⟩
    have h1 : RefAt w1 S c L := h.bound.move' f1
    obtain ⟨a, cap, hc, hf, hm, hcells⟩ := h1.cells
    obtain ⟨b, rfl, hSb, hbc, hfz, hcells⟩ := hcells (by omega)
    obtain ⟨_, h2, h3⟩ := hcells k hk
    unfold maxLen at hm
    rw [hs] at h3
    have HH := Lib.hid (OnesAt.stored h1 hc k hk (L[k].place + 1) 0)
    clear hs hcells
    go_wp2_with fail
    go_region
    go_wp2_with fail
    go_ret
    have h9 := HH.out
    exact ⟨rfl, OnesAt.mono (w := _) (h9.move (fun _ _ => rfl)) (fun _ hk => Or.inl hk), ((f1.nil.setCell (fun _ => hSb) _).setCell (fun _ => hSb) _).drew⟩
  · rw [show byOf 0 1 = 0 from rfl]
    go_enter Try.func29, Try.ntmps29
    go_wp2_with fail
    refine H.out.mono ?_
    rintro e w1 ⟨rfl, f1⟩
    have h1 : RefAt w1 S c L := h.bound.move' f1
    obtain ⟨a, cap, hc, hf, hm, hcells⟩ := h1.cells
    obtain ⟨b, rfl, hSb, hbc, hfz, hcells⟩ := hcells (by omega)
    obtain ⟨_, h2, h3⟩ := hcells k hk
    unfold maxLen at hm
    rw [hs] at h3
    have HH := Lib.hid (OnesAt.stored1 h1 hc k hk 1)
    clear hs hcells
    go_wp2_with fail
    go_ret
    have h9 := HH.out
    exact ⟨rfl, by rw [Int.add_zero]; exact h9.mono (fun _ hk => Or.inl hk), f1.nil.setCell (fun _ => hSb) _⟩
  · rw [show byOf 1 0 = 1 from rfl]
    go_enter Try.func29, Try.ntmps29
    go_wp2_with fail
    refine H.out.mono ?_
    rintro e w1 ⟨rfl, f1⟩
    have h1 : RefAt w1 S c L := h.bound.move' f1
    obtain ⟨a, cap, hc, hf, hm, hcells⟩ := h1.cells
    obtain ⟨b, rfl, hSb, hbc, hfz, hcells⟩ := hcells (by omega)
    obtain ⟨_, h2, h3⟩ := hcells k hk
    unfold maxLen at hm
    rw [hs] at h3
    have HH := Lib.hid (OnesAt.stored h1 hc k hk (L[k].place + 1) 0)
    clear hs hcells
    go_wp2_with fail
    go_region
    go_wp2_with fail
    go_ret
    have h9 := HH.out
    exact ⟨rfl, OnesAt.mono (w := _) (h9.move (fun _ _ => rfl)) (fun _ hk => Or.inl hk), ((f1.nil.setCell (fun _ => hSb) _).setCell (fun _ => hSb) _).drew⟩
  · rw [show byOf 0 2 = 0 from rfl]
    go_enter Try.func29, Try.ntmps29
    go_wp2_with fail
    refine H.out.mono ?_
    rintro e w1 ⟨rfl, f1⟩
    have h1 : RefAt w1 S c L := h.bound.move' f1
    obtain ⟨a, cap, hc, hf, hm, hcells⟩ := h1.cells
    obtain ⟨b, rfl, hSb, hbc, hfz, hcells⟩ := hcells (by omega)
    obtain ⟨_, h2, h3⟩ := hcells k hk
    unfold maxLen at hm
    rw [hs] at h3
    have HH := Lib.hid (OnesAt.stored1 h1 hc k hk 2)
    clear hs hcells
    go_wp2_with fail
    go_ret
    have h9 := HH.out
    exact ⟨rfl, by rw [Int.add_zero]; exact h9.mono (fun _ hk => Or.inl hk), f1.nil.setCell (fun _ => hSb) _⟩

theorem stateF_some {k : Nat} (hk : k < L.length) : (stateF L k).2 = true := by
  unfold stateF
  rw [if_pos (by omega), Int.toNat_natCast, List.getElem?_eq_getElem hk]

theorem stateF_none {g : Int} (hg : ¬ (0 ≤ g ∧ g < L.length)) : stateF L g = (0, false) := by
  unfold stateF
  split
  · rw [List.getElem?_eq_none (by omega)]
  · rfl

theorem rturn_any (h : RefAt w S c L) (hp : Small L 100000000) (g fr to : Int) (hft : (fr = 0 ∧ to = 0) ∨ (fr = 0 ∧ to = 1) ∨ (fr = 1 ∧ to = 0) ∨ (fr = 0 ∧ to = 2)) :
    Calls Try.prog 29 #[.pointer (some ⟨c, 0, none⟩), .int .i64 g, .int .i64 fr, .int .i64 to] w (RefPost S c w (.int .i64 (turnF L g fr to (byOf fr to)).1) (turnF L g fr to (byOf fr to)).2) := by
  have stay : ∀ {w' : World} (r : Value), Frm Nil w w' → Ending.returned r = Ending.returned r ∧ RefAt w' (New S w w') c L ∧ Frm S w w' := fun r hf => ⟨rfl, (h.bound.move' hf).mono (fun k hk => .inl hk), hf.nil⟩
  by_cases hg : 0 ≤ g ∧ g < L.length
  · obtain ⟨k, rfl⟩ := Int.eq_ofNat_of_zero_le hg.1
    have hk : k < L.length := by omega
    have hget : L[((k : Nat) : Int).toNat]? = some L[k] := by rw [Int.toNat_natCast]; exact List.getElem?_eq_getElem hk
    have hpl := hp L[k] (List.getElem_mem hk)
    by_cases hst : L[k].state = fr
    · have e : turnF L k fr to (byOf fr to) = (0, L.set k ⟨L[k].program, L[k].place + byOf fr to, to⟩) := by
        unfold turnF
        rw [if_pos (by omega), hget]
        simp only [hst, if_true, Int.toNat_natCast]
      rw [e]
      exact rturn_ok h fr to k hk hst hpl.1 hpl.2 hft
    · have e : turnF L k fr to (byOf fr to) = (7, L) := by
        unfold turnF
        rw [if_pos (by omega), hget]
        simp only [hst, if_false]
      rw [e]
      refine (rturn_state h fr to k hk hst).mono ?_
      rintro e w' ⟨rfl, hf⟩
      exact stay _ hf
  · have e : turnF L g fr to (byOf fr to) = (6, L) := by
      unfold turnF
      split
      · rw [List.getElem?_eq_none (by omega)]
      · rfl
    rw [e]
    refine (rturn_none h g fr to (by rw [stateF_none hg])).mono ?_
    rintro e w' ⟨rfl, hf⟩
    exact stay _ hf

theorem rspawn_any (h : RefAt w S c L) (hL : L.length ≤ 512) (pr : Int) : Calls Try.prog 28 #[.pointer (some ⟨c, 0, none⟩), .int .i64 pr] w
    (RefPost S c w (.tuple #[.int .i64 (spawnF L pr).1.1, .int .i64 (spawnF L pr).1.2]) (spawnF L pr).2) := by
  unfold spawnF
  by_cases h0 : pr < 0
  · rw [if_pos h0]
    refine (rspawn_arg _ pr h0 w).mono ?_
    rintro e w' ⟨rfl, rfl⟩
    exact ⟨rfl, h.mono (fun k hk => .inl hk), Frm.refl _ _⟩
  · rw [if_neg h0]
    by_cases h1 : L.length = 512
    · rw [if_pos h1]
      refine (rspawn_full h h1 pr (by omega)).mono ?_
      rintro e w' ⟨rfl, rfl⟩
      exact ⟨rfl, h.mono (fun k hk => .inl hk), Frm.refl _ _⟩
    · rw [if_neg h1]
      exact rspawn_ok h (by omega) pr (by omega)
end

end Go.Proofs.Ytlfboploganglaa
