/- Layer 8, pew: Drop. -/
import Derived.Test.YtlccpbdpfamekaaPewB
import Derived.Deep.RegionWith
namespace Go.Proofs.Ytlccpbdpfamekaa
set_option linter.unusedVariables false
set_option linter.unusedSimpArgs false
open Go.RowKit

def Fine (L : List Wtr) : Prop := L.length ≤ 1024 ∧ ∀ x ∈ L, 0 ≤ x.g ∧ -1 ≤ x.case_

def without (g : Int) (L : List Wtr) : List Wtr := L.filter (fun x => decide (x.g ≠ g))

theorem without_le (g : Int) (L : List Wtr) : (without g L).length ≤ L.length := List.length_filter_le _ _

theorem Fine.without {L : List Wtr} (h : Fine L) (g : Int) : Fine (without g L) :=
  ⟨Nat.le_trans (without_le g L) h.1, fun x hx => h.2 x (List.mem_filter.1 hx).1⟩

theorem without_snoc (g : Int) (L : List Wtr) (k : Nat) (h : k < L.length) : without g (L.take (k + 1)) = without g (L.take k) ++ (if L[k].g = g then [] else [L[k]]) := by
  unfold Go.Proofs.Ytlccpbdpfamekaa.without
  rw [List.take_succ_eq_append_getElem h, List.filter_append]
  congr 1
  by_cases hg : L[k].g = g <;> simp [hg]

section
variable {w : World} {S : Nat → Prop} {p : Nat} {L : List Wtr}

set_option maxHeartbeats 400000 in
theorem pew_drop_nil (g : Int) (w : World) : Calls Try.prog 62 #[.pointer none, .int .i64 g] w fun e w' => e = .returned (.int .i64 0) ∧ Frm Nil w w' := by
  go_enter Try.func62, Try.ntmps62
  go_wp2_with fail
  refine (pew_list_nil w).mono ?_
  rintro e w1 ⟨rfl, rfl⟩
  go_wp2_with fail
  go_loopw [17] (fun i wr => i = .int .i64 0 ∧ wr = w) (fun _ _ => 0)
  case atStart => exact ⟨rfl, rfl⟩
  case round =>
    obtain ⟨rfl, rfl⟩ := hrel
    go_wp2_with fail
    refine (pew_len_nil _).mono ?_
    rintro e w' ⟨rfl, rfl⟩
    all_goals
      go_wp2_with fail
      go_ret
      exact ⟨rfl, (by repeat (first | exact Frm.refl _ _ | apply Frm.drewN | apply Frm.drew | apply Frm.alloc | (refine Frm.then ?_ (by assumption))))⟩

set_option maxRecDepth 100000 in
set_option maxHeartbeats 400000 in
theorem pew_drop (h : PewAt w S p L) (hF : Fine L) (g : Int) : Calls Try.prog 62 #[.pointer (some ⟨p, 0, none⟩), .int .i64 g] w fun e w' =>
    e = .returned (.int .i64 ((L.length : Int) - (without g L).length)) ∧ PewAt w' (New S w w') p (without g L) ∧ Frm S w w' := by
  have hbd := h.bound
  go_enter Try.func62, Try.ntmps62
  go_wp2_with fail
  refine (pew_list h (Nat.le_trans hF.1 (by decide))).mono ?_
  rintro e w1 ⟨a, cap, rfl, hrd, hnew, f1⟩
  have h1 := hbd.move (fun k hk => f1.block k hk.2 id)
  obtain ⟨_, _, _, _, _, hSp, h6⟩ := h1
  obtain ⟨c0, c1, c2, cf⟩ := pew_cells h6
  have hm := hrd.2.1
  unfold maxLen at hm
  go_wp2_with fail
  have e2 := blk_set (blk_set (blk_set h6 0 (.pointer none)) 1 (.pointer none)) 2 (.int .i64 0)
  have f0 : Frm (fun k => S k ∧ k < w.heap.size) w1 w1 := Frm.refl _ _
  have f2 := ((f0.setCell (p := ⟨p, 0, none⟩) (fun _ => hSp) (.pointer none)).setCell (p := ⟨p, 1, none⟩) (fun _ => hSp) (.pointer none)).setCell (p := ⟨p, 2, none⟩) (fun _ => hSp) (.int .i64 0)
  have hs2 : (((w1.setCell ⟨p, 0, none⟩ (.pointer none)).setCell ⟨p, 1, none⟩ (.pointer none)).setCell ⟨p, 2, none⟩ (.int .i64 0)).heap.size = w1.heap.size := by simp [World.setCell]
  obtain ⟨w2, hw2⟩ : ∃ w2, ((w1.setCell ⟨p, 0, none⟩ (.pointer none)).setCell ⟨p, 1, none⟩ (.pointer none)).setCell ⟨p, 2, none⟩ (.int .i64 0) = w2 := ⟨_, rfl⟩
  rw [hw2] at e2 f2 hs2 ⊢
  have hp2 : PewAt w2 (fun k => S k ∧ k < w.heap.size) p [] := ⟨[], ⟨rfl, fun i h => absurd h (Nat.not_lt_zero _)⟩, List.nodup_nil, by simp, by simp, hSp, e2⟩
  have hrd2 : Rd w2 3 a L.length (L.flatMap Wtr.cells) := hrd.keep f2 (fun b o hb hk => by have := hnew b o hb; omega)
  have hnb : ∀ b o, a = some ⟨b, o, none⟩ → 0 < L.length → b < w2.heap.size := fun b o hb hl => by
    obtain ⟨b', o', hb', hc⟩ := hrd2.2.2 hl
    rw [hb] at hb'
    injection hb' with hb'
    injection hb' with hb1 hb2
    subst hb1
    have hcell := hc 0 _ (List.getElem?_eq_getElem (by rw [hrd2.1]; omega))
    exact World.block_lt_of_cell? w2 _ hcell
  have fw2 : Frm S w w2 := (f1.nil.trans f2 (fun x _ hk => hk.1))
  have hsz2 : w.heap.size ≤ w2.heap.size := fw2.size
  clear hw2 e2 f2 hs2 h6 c0 c1 c2 cf f0 hrd f1
  go_loopw [17] (fun i wr => ∃ (k : Nat) (S' : Nat → Prop), k ≤ L.length ∧ i = .int .i64 k ∧ Frm S w wr ∧ PewAt wr S' p (without g (L.take k)) ∧ Rd wr 3 a L.length (L.flatMap Wtr.cells) ∧ w2.heap.size ≤ wr.heap.size ∧ (∀ k, S' k → (S k ∧ k < w.heap.size) ∨ (w2.heap.size ≤ k ∧ k < wr.heap.size))) (fun i _ => L.length - (intOf i).toNat)
  case atStart => exact ⟨0, _, Nat.zero_le _, rfl, fw2, hp2, hrd2, Nat.le_refl _, fun k hk => .inl hk⟩
  case round =>
    obtain ⟨k, S', hk, rfl, hfr, hpw, hrr, hszr, hS'⟩ := hrel
    by_cases hlt : k < L.length
    · obtain ⟨b, off, rfl, hc⟩ := hrr.2.2 (by omega)
      have hbn := hnb b off rfl (by omega)
      have hbo := hnew b off rfl
      obtain ⟨x, hx⟩ : ∃ x, L[k] = x := ⟨_, rfl⟩
      have key : ∀ j (hj : j < 3), ∀ u, (x.cells)[j]? = some u → wr.cell? ⟨b, off + k * 3 + j, none⟩ = some u := fun j hj u hu => by
        rw [Nat.add_assoc]
        exact hc (k * 3 + j) u (by rw [flat_get Wtr.cells 3 (fun _ => rfl) L k j hj hlt, hx]; exact hu)
      have d0 := key 0 (by omega) _ rfl
      have d1 := key 1 (by omega) _ rfl
      have d2 := key 2 (by omega) _ rfl
      rw [Nat.add_zero] at d0
      have hfx := hF.2 L[k] (List.getElem_mem hlt)
      have hsn := without_snoc g L k hlt
      have hml : (without g (L.take k)).length < 1024 := Nat.lt_of_le_of_lt (without_le g _) (by rw [List.length_take]; have := hF.1; omega)
      rw [hx] at hfx hsn
      obtain ⟨xg, xc, xv⟩ := x
      dsimp only at hfx
      obtain ⟨fx1, fx2⟩ := hfx
      have HSN := Lib.hid hsn
      clear key hc hx hsn
      have hbS : ¬ S' b := fun h => (hS' b h).elim (fun h => by omega) (fun h => by omega)
      by_cases hg : xg = g
      · have hb0 : (xg != g) = false := by simp [hg]
        have HG := Lib.hid hg
        clear hg
        go_wp2_with fail
        go_roundw
        case rel => exact ⟨k + 1, S', by omega, by go_num, hfr.alloc _, by rw [HSN.out, if_pos HG.out, List.append_nil]; exact hpw.move' ((Frm.refl _ _).alloc _), hrr.nil ((Frm.refl _ _).alloc _), Nat.le_trans hszr (by simp), fun j hj => (hS' j hj).imp id (fun h => ⟨h.1, by simp; omega⟩)⟩
        case measure => simp [intOf]; omega
      · have hb0 : (xg != g) = true := by simp [hg]
        have HG := Lib.hid hg
        clear hg
        go_wp2_with fail
        refine (pew_add_ok (hpw.move' ((Frm.refl _ _).alloc _)) hml ⟨xg, xc, xv⟩ fx1 fx2).mono ?_
        rintro e w3 ⟨rfl, h3, f3⟩
        go_wp2_with fail
        go_roundw
        case rel =>
          refine ⟨k + 1, _, by omega, by go_num, (hfr.alloc _).trans f3 (fun j hj hs => (hS' j hs).elim (fun h => h.1) (fun h => by omega)), by rw [HSN.out, if_neg HG.out]; exact h3, (hrr.nil ((Frm.refl _ _).alloc _)).keep f3 (fun b' o' he hs => ?_), Nat.le_trans hszr (Nat.le_trans (by simp) f3.size), fun j hj => ?_⟩
          · injection he with he
            injection he with he _
            subst he
            exact hbS hs
          · rcases hj with hj | hj
            · exact (hS' j hj).imp id (fun h => ⟨h.1, Nat.lt_of_lt_of_le h.2 (Nat.le_trans (by simp) f3.size)⟩)
            · exact .inr ⟨Nat.le_trans hszr (Nat.le_trans (by simp) hj.1), hj.2⟩
        case measure => simp [intOf]; omega
    · have hkn : k = L.length := by omega
      rw [hkn, List.take_length] at hpw
      clear hkn
      obtain ⟨m, hm2⟩ : ∃ m, (without g L).length = m := ⟨_, rfl⟩
      have hml : m ≤ L.length := by rw [← hm2]; exact without_le g L
      have K1 := len_is hpw
      rw [hm2] at K1
      have HM := Lib.hid hm2
      clear hm2
      go_wp2_with fail
      refine (K1 _ (by repeat (first | exact Frm.refl _ _ | apply Frm.drewN | apply Frm.drew | apply Frm.alloc | (refine Frm.then ?_ (by assumption))))).mono ?_
      rintro e w' ⟨rfl, rfl⟩
      all_goals
        go_wp2_with fail
        go_ret
        refine ⟨ret_int (by rw [HM.out]), (hpw.move' (by repeat (first | exact Frm.refl _ _ | apply Frm.drewN | apply Frm.drew | apply Frm.alloc | (refine Frm.then ?_ (by assumption))))).mono (fun j hj => (hS' j hj).imp (fun h => h.1) (fun h => ⟨Nat.le_trans hsz2 h.1, h.2⟩)), (hfr.then (by repeat (first | exact Frm.refl _ _ | apply Frm.drewN | apply Frm.drew | apply Frm.alloc | (refine Frm.then ?_ (by assumption)))))⟩
end

end Go.Proofs.Ytlccpbdpfamekaa
