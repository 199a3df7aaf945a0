/- The reference of layer 9: one channel, lists. -/
import Derived.Test.YtlccpbdpfamekaaPipeH
import Derived.Deep.DeepMust
namespace Go.Proofs.Ytlccpbdpfamekaa
set_option linter.unusedVariables false
set_option linter.unusedSimpArgs false
open Go.RowKit

theorem Rd.cut {w : World} {sz n k cap d : Nat} {a : Option Addr} {xs : List Value} (h : Rd w sz a n xs) (hd : k * sz = d) (hk : k ≤ n) (hc : n ≤ cap) :
    Rd w sz (if cap = k then a else a.map (fun x => ⟨x.block, x.off + d, none⟩)) (n - k) (xs.drop d) := by
  subst hd
  refine ⟨by rw [List.length_drop, h.1, Nat.sub_mul], Nat.le_trans (Nat.sub_le _ _) h.2.1, fun hn => ?_⟩
  obtain ⟨b, off, rfl, hcell⟩ := h.2.2 (by omega)
  rw [if_neg (by omega)]
  refine ⟨b, off + k * sz, rfl, fun j u hu => ?_⟩
  rw [Nat.add_assoc]
  exact hcell _ u (by rw [← hu, List.getElem?_drop])

theorem SL.slc {w : World} {F : List Piece} {te sz n : Nat} {v : Value} {xs : List Value} (h : SL w (Slc te sz v n xs :: F)) : ∃ a cap, v = .slice a n cap ∧ n ≤ cap ∧ cap ≤ maxLen ∧ Rd w sz a n xs := by
  obtain ⟨S, _, h1, _⟩ := h.on
  rcases h1.2 with ⟨rfl, rfl⟩ | ⟨g, cap, cur, rfl, _, _, h2, h3, _⟩
  · exact ⟨none, 0, rfl, Nat.le_refl _, Nat.zero_le _, Rd.of_own h1⟩
  · exact ⟨_, cap, rfl, h2, h3, Rd.of_own h1⟩

/-- A piece out of which a slice can be read. -/
def Reader (A : Piece) (sz : Nat) (a : Option Addr) (n : Nat) (xs : List Value) : Prop := ∀ (S : Nat → Prop) (w : World), A.on S w → Rd w sz a n xs

theorem Reader.slc {te sz n cap : Nat} {a : Option Addr} {xs : List Value} : Reader (Slc te sz (.slice a n cap) n xs) sz a n xs := fun S w h => Rd.of_own h.1
theorem Reader.rdp {sz n : Nat} {a : Option Addr} {xs : List Value} : Reader (RdP a n sz xs) sz a n xs := fun S w h => h.1
theorem Reader.old {w0 : World} {sz n : Nat} {a : Option Addr} {xs : List Value} (h : Rd w0 sz a n xs) : Reader (Old w0) sz a n xs := by
  intro S w ho
  refine ⟨h.1, h.2.1, fun hn => ?_⟩
  obtain ⟨b, off, ha, hc⟩ := h.2.2 hn
  refine ⟨b, off, ha, fun i u hu => ?_⟩
  have hx := hc i u hu
  exact (World.cell?_of_block (w := w0) (ho.2.2.2 b (World.block_lt_of_cell? w0 _ hx)).2).trans hx

theorem SL.read {w : World} {A : Piece} {F : List Piece} {sz n : Nat} {a : Option Addr} {xs : List Value} (h : SL w (A :: F)) (hr : Reader A sz a n xs) : Rd w sz a n xs := by
  obtain ⟨S, _, h1⟩ := h.on
  exact hr S w h1

theorem infoW8 : (Try.prog.info? 91).map (fun i => (i.zero, i.size, i.bytes)) = some (some (.agg #[.int .i64 0, .int .i64 0, .int .i64 0]), 3, 24) := by kernel_rfl

theorem wcells_one (L : List Wtr) : (L.flatMap Wtr.cells).all Value.oneCell' = true := by
  rw [List.all_eq_true]
  intro u hu
  obtain ⟨x, _, hx⟩ := List.mem_flatMap.1 hu
  simp [Wtr.cells] at hx
  rcases hx with rfl | rfl | rfl <;> rfl

theorem ints_one (L : List Int) : (ints L).all Value.oneCell' = true := by
  rw [List.all_eq_true]
  intro u hu
  obtain ⟨x, _, rfl⟩ := List.mem_map.1 hu
  rfl

theorem wcells_drop (m : Wtr) (L : List Wtr) : ((m :: L).flatMap Wtr.cells).drop 3 = L.flatMap Wtr.cells := rfl

section
variable {w : World} {F : List Piece}

set_option maxHeartbeats 400000 in
theorem r_behind {a : Option Addr} {cap : Nat} {m : Wtr} {L : List Wtr} {n : Nat} (hn : n = L.length + 1) (hr : Rd w 3 a n ((m :: L).flatMap Wtr.cells)) (hc : n ≤ cap) (hm : cap ≤ maxLen) (hL : L.length ≤ 100000) (H : SL w F) :
    Calls Try.prog 68 #[.slice a n cap] w fun e w' => ∃ v, e = .returned v ∧ SL w' (Slc 91 3 v L.length (L.flatMap Wtr.cells) :: F) := by
  have hcut := hr.cut (k := 1) (d := 3) rfl (by omega) hc
  rw [wcells_drop, show n - 1 = L.length by omega] at hcut
  have h1 : (1 : Int) ≤ (n : Int) := by omega
  have h2 : (n : Int) ≤ (cap : Int) := by omega
  have h3 : (1 : Int) ≤ (cap : Int) := by omega
  have h4 : ((n : Int) - 1).toNat = L.length := by omega
  unfold maxLen at hm
  go_enter Try.func68, Try.ntmps68
  have H0 := SL.slcNil 91 3 H
  go_wp2_with (at_builtin; refine sl_append rfl _ _ 43 _ 24 rfl Try.underlying43 infoW8 rfl (by decide) (.slice none 0 0) 0 [] rfl _ _ _ _ rfl hcut (wcells_one L) H0 (by omega) (by decide) ?_; intro v1 w1 H1 hs1)
  all_goals
    go_ret
    rw [Nat.zero_add, List.nil_append] at H1
    exact ⟨v1, rfl, H1⟩

set_option maxRecDepth 100000 in
set_option maxHeartbeats 400000 in
theorem r_without {a : Option Addr} {cap : Nat} {L : List Wtr} {n : Nat} {A : Piece} (i : Int) (hn : n = L.length) (hA : Reader A 3 a n (L.flatMap Wtr.cells)) (hL : L.length ≤ 100000) (H : SL w (A :: F)) :
    Calls Try.prog 69 #[.slice a n cap, .int .i64 i] w fun e w' => ∃ v, e = .returned v ∧ SL w' (Slc 91 3 v (without i L).length ((without i L).flatMap Wtr.cells) :: A :: F) := by
  subst hn
  go_enter Try.func69, Try.ntmps69
  go_wp2
  go_loopw [5, 10] (fun v j wr => ∃ k : Nat, k ≤ L.length ∧ j = .int .i64 k ∧ SL wr (Slc 91 3 v (without i (L.take k)).length ((without i (L.take k)).flatMap Wtr.cells) :: A :: F)) (fun _ j _ => L.length - (intOf j).toNat)
  case atStart => exact ⟨0, Nat.zero_le _, rfl, SL.slcNil _ _ H⟩
  case round =>
    obtain ⟨k, hk, rfl, HR⟩ := hrel
    by_cases hlt : k < L.length
    · obtain ⟨b, off, rfl, d0, d1, d2⟩ := wtr_at (HR.up1.read hA) k hlt
      have hsn := without_snoc i L k hlt
      have hml : (without i (L.take k)).length ≤ L.length := Nat.le_trans (without_le i _) (by rw [List.length_take]; omega)
      obtain ⟨x, hx⟩ : ∃ x, L[k] = x := ⟨_, rfl⟩
      rw [hx] at hsn d0 d1 d2
      obtain ⟨xg, xc, xv⟩ := x
      dsimp only at d0 d1 d2 hsn
      have HSN := Lib.hid hsn
      clear hx hsn
      by_cases hg : xg = i
      · have hb0 : (xg != i) = false := by simp [hg]
        have HG := Lib.hid hg
        clear hg
        go_wp2_with fail
        go_roundw
        case rel => exact ⟨k + 1, by omega, by go_num, by rw [HSN.out, if_pos HG.out, List.append_nil]; exact HR.allocd _⟩
        case measure => simp [intOf]; omega
      · have hb0 : (xg != i) = true := by simp [hg]
        have HG := Lib.hid hg
        clear hg
        obtain ⟨va, vc, hv, hle, hcm, hrd⟩ := HR.slc
        subst hv
        go_wp2_with (at_builtin; go_must (refine sl_app rfl _ _ 43 _ 24 rfl Try.underlying43 infoW8 rfl (by decide) (.slice va _ vc) _ _ [.int .i64 xg, .int .i64 xc, .int .i64 xv] rfl rfl (by simp) rfl rfl (HR.allocd _) (by omega) (by decide) ?_); intro g c w1 H1 hs1)
        go_roundw
        case rel => exact ⟨k + 1, by omega, by go_num, by rw [HSN.out, if_neg HG.out, List.length_append, List.flatMap_append]; exact H1⟩
        case measure => simp [intOf]; omega
    · have hkn : k = L.length := by omega
      rw [hkn, List.take_length] at HR
      clear hkn
      go_wp2_with fail
      go_ret
      exact ⟨_, rfl, HR⟩
end

end Go.Proofs.Ytlccpbdpfamekaa
