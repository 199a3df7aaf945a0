/- Layer 9, pipe: alone, Wait, Close. -/
import Derived.Test.YtlccpbdpfamekaaPipeF
namespace Go.Proofs.Ytlccpbdpfamekaa
set_option linter.unusedVariables false
set_option linter.unusedSimpArgs false
open Go.RowKit

theorem wtr_at {w : World} {a : Option Addr} {n : Nat} {L : List Wtr} (h : Rd w 3 a n (L.flatMap Wtr.cells)) (k : Nat) (hk : k < L.length) : ∃ b off, a = some ⟨b, off, none⟩ ∧
    w.cell? ⟨b, off + k * 3, none⟩ = some (.int .i64 L[k].g) ∧ w.cell? ⟨b, off + k * 3 + 1, none⟩ = some (.int .i64 L[k].case_) ∧ w.cell? ⟨b, off + k * 3 + 2, none⟩ = some (.int .i64 L[k].value) := by
  have hl := h.1
  rw [flat_length Wtr.cells 3 (fun _ => rfl)] at hl
  obtain ⟨b, off, rfl, hc⟩ := h.2.2 (by omega)
  have key : ∀ j (hj : j < 3), ∀ u, (L[k].cells)[j]? = some u → w.cell? ⟨b, off + k * 3 + j, none⟩ = some u := fun j hj u hu => by
    rw [Nat.add_assoc]
    exact hc (k * 3 + j) u (by rw [flat_get Wtr.cells 3 (fun _ => rfl) L k j hj hk]; exact hu)
  exact ⟨b, off, rfl, key 0 (by omega) _ rfl, key 1 (by omega) _ rfl, key 2 (by omega) _ rfl⟩

theorem any_take {α : Type} (p : α → Bool) (L : List α) (k : Nat) (h : k < L.length) : (L.take (k + 1)).any p = ((L.take k).any p || p L[k]) := by
  rw [List.take_succ_eq_append_getElem h, List.any_append]
  simp

section
variable {w : World} {F : List Piece} {g : Nat} {x : PipeM}

theorem alone1 {b : Nat} {i : Int} (m : Wtr) (hb : w.heap[b]? = some (.cells #[.int .i64 i] 3 (0, 0))) : Calls Try.prog 72 #[m.agg, .pointer (some ⟨b, 0, none⟩)] w fun e w' => e = .returned (.bool (m.g == i)) ∧ Frm Nil w w' := by
  obtain ⟨c0, cf⟩ := box1 hb
  have bl := lt_of_block hb
  obtain ⟨mg, mc, mv⟩ := m
  unfold Wtr.agg
  dsimp only
  go_enter Try.func72, Try.ntmps72
  go_wp2_with fail
  try go_quiet (fail)
  go_wp2_with fail
  go_ret
  exact ⟨rfl, (by repeat (first | with_reducible exact Frm.refl _ _ | apply Frm.drewN | apply Frm.drew | apply Frm.alloc))⟩

theorem alone2 {b ob : Nat} {i : Int} (m : Wtr) (hb : w.heap[b]? = some (.cells #[.int .i64 i] 3 (0, 0))) (ho : w.heap[ob]? = some (.cells #[.func (.func 72) #[] #[.pointer (some ⟨b, 0, none⟩)]] 126 (0, 0))) :
    Calls Try.prog 74 #[m.agg, .pointer (some ⟨ob, 0, none⟩)] w fun e w' => e = .returned (.bool (!(m.g == i))) ∧ Frm Nil w w' := by
  obtain ⟨c0, cf⟩ := box1 ho
  have bl := lt_of_block ho
  have K := fun w' (f : Frm Nil w w') => alone1 m (f.blk hb id)
  have HK := Lib.hid K
  clear K
  obtain ⟨mg, mc, mv⟩ := m
  unfold Wtr.agg at HK ⊢
  dsimp only at HK ⊢
  go_enter Try.func74, Try.ntmps74
  go_wp2_with fail
  refine (HK.out _ ((Frm.refl _ _).alloc _)).mono ?_
  rintro e w1 ⟨rfl, f1⟩
  go_wp2_with fail
  go_ret
  exact ⟨rfl, ((Frm.refl Nil w).alloc _).then f1⟩

/-- Who asks each of a list, till one says yes. -/
def idxF (p : Wtr → Bool) (L : List Wtr) : Int := match L.findIdx? p with | some i => i | none => -1

set_option maxHeartbeats 400000 in
theorem wtr_index {a : Option Addr} {n cap fn : Nat} {L : List Wtr} {cv : Value} (p : Wtr → Bool) (he : Enters Try.prog fn) (hn : n = L.length) (hr : Rd w 3 a n (L.flatMap Wtr.cells))
    (hf : ∀ m w', Frm Nil w w' → Calls Try.prog fn #[m.agg, cv] w' fun e w'' => e = .returned (.bool (p m)) ∧ Frm Nil w' w'') :
    Calls Try.prog 75 #[.slice a n cap, .func (.func fn) #[] #[cv]] w fun e w' => (∃ i : Int, e = .returned (.int .i64 i) ∧ (decide (0 ≤ i) = L.any p)) ∧ Frm Nil w w' := by
  subst hn
  have hm := hr.2.1
  unfold maxLen at hm
  have HF := Lib.hid hf
  clear hf
  unfold Enters at he
  go_enter Try.func75, Try.ntmps75
  go_wp2_with fail
  go_loopw [8] (fun i wr => ∃ k : Nat, k ≤ L.length ∧ i = .int .i64 k ∧ Frm Nil w wr ∧ Hid ((L.take k).any p = false)) (fun i _ => L.length - (intOf i).toNat)
  case atStart => exact ⟨0, Nat.zero_le _, rfl, Frm.refl _ _, Lib.hid rfl⟩
  case round =>
    obtain ⟨k, hk, rfl, hfr, hno⟩ := hrel
    by_cases hlt : k < L.length
    · obtain ⟨b, off, rfl, d0, d1, d2⟩ := wtr_at (hr.nil hfr) k hlt
      have ht := any_take p L k hlt
      rw [hno.out] at ht
      obtain ⟨m, hm⟩ : ∃ m, L[k] = m := ⟨_, rfl⟩
      rw [hm] at ht d0 d1 d2
      have HM := Lib.hid hm
      have HT := Lib.hid ht
      clear hm ht
      have K := HF.out m wr hfr
      obtain ⟨pm, hpm⟩ : ∃ pm, p m = pm := ⟨_, rfl⟩
      rw [hpm] at K
      have HP := Lib.hid hpm
      clear hpm
      obtain ⟨mg, mc, mv⟩ := m
      unfold Wtr.agg at K
      dsimp only at K d0 d1 d2
      have HK := Lib.hid K
      clear K
      go_wp2_with fail
      refine HK.out.mono ?_
      rintro e w1 ⟨rfl, f1⟩
      cases pm
      · go_wp2_with fail
        go_roundw
        case rel => exact ⟨k + 1, by omega, by go_num, hfr.then f1, Lib.hid (by rw [HT.out, HP.out]; rfl)⟩
        case measure => simp [intOf]; omega
      · go_wp2_with fail
        go_ret
        refine ⟨⟨k, rfl, ?_⟩, hfr.then f1⟩
        have : L.any p = true := List.any_eq_true.2 ⟨L[k], List.getElem_mem hlt, by rw [HM.out]; exact HP.out⟩
        rw [this]
        simp
    · have hkn : k = L.length := by omega
      have hno' := hno.out
      rw [hkn, List.take_length] at hno'
      have HN := Lib.hid hno'
      clear hno' hkn
      go_wp2_with fail
      go_ret
      exact ⟨⟨-1, rfl, by rw [HN.out]; rfl⟩, hfr⟩

set_option maxHeartbeats 400000 in
theorem wtr_contains {a : Option Addr} {n cap fn : Nat} {L : List Wtr} {cv : Value} (p : Wtr → Bool) (he : Enters Try.prog fn) (hn : n = L.length) (hr : Rd w 3 a n (L.flatMap Wtr.cells))
    (hf : ∀ m w', Frm Nil w w' → Calls Try.prog fn #[m.agg, cv] w' fun e w'' => e = .returned (.bool (p m)) ∧ Frm Nil w' w'') :
    Calls Try.prog 73 #[.slice a n cap, .func (.func fn) #[] #[cv]] w fun e w' => e = .returned (.bool (L.any p)) ∧ Frm Nil w w' := by
  subst hn
  have K := wtr_index (cap := cap) p he rfl hr hf
  have HK := Lib.hid K
  clear K hf he
  go_enter Try.func73, Try.ntmps73
  go_wp2_with fail
  refine HK.out.mono ?_
  rintro e w1 ⟨⟨i, rfl, hi⟩, f1⟩
  have HI := Lib.hid hi
  clear hi
  go_wp2_with fail
  go_ret
  exact ⟨ret_bool HI.out, f1⟩

def aloneF (x : PipeM) (s : Bool) (i : Int) : Bool := decide (0 < (if s then x.senders else x.receivers).length) && (!x.closed && (decide (x.size = 0) && !((if s then x.senders else x.receivers).any (fun m => !(m.g == i)))))

theorem sl_waiting (s : Bool) (hs : x.senders.length ≤ 100000) (hr : x.receivers.length ≤ 100000) (H : SL w (PipeP g x :: F)) : Calls Try.prog 15 #[.pointer (some ⟨g, 0, none⟩), .bool s] w (Wtrs w (if s then x.senders else x.receivers)) := by
  obtain ⟨S, _, h⟩ := H.on
  exact pipe_waiting h s hs hr

theorem sl_cap (H : SL w (PipeP g x :: F)) : Calls Try.prog 17 #[.pointer (some ⟨g, 0, none⟩)] w fun e w' => e = .returned (.int .i64 x.size) ∧ w = w' := by
  obtain ⟨S, _, h⟩ := H.on
  exact pipe_cap h

set_option maxRecDepth 100000 in
set_option maxHeartbeats 400000 in
theorem sl_alone (s : Bool) (i : Int) (hs : x.senders.length ≤ 100000) (hr : x.receivers.length ≤ 100000) (H : SL w (PipeP g x :: F)) :
    Calls Try.prog 61 #[.pointer (some ⟨g, 0, none⟩), .bool s, .int .i64 i] w fun e w' => e = .returned (.bool (aloneF x s i)) ∧ SL w' (PipeP g x :: F) := by
  unfold aloneF
  obtain ⟨cl, hcl⟩ : ∃ cl, x.closed = cl := ⟨_, rfl⟩
  obtain ⟨z, hz⟩ : ∃ z, x.size = z := ⟨_, rfl⟩
  obtain ⟨L, hL⟩ : ∃ L, (if s then x.senders else x.receivers) = L := ⟨_, rfl⟩
  rw [hcl, hz, hL]
  have HC := Lib.hid hcl
  have HZ := Lib.hid hz
  have HL := Lib.hid hL
  clear hcl hz hL
  go_enter Try.func61, Try.ntmps61
  go_wp2_with fail
  have H1 := (H.alloc (.cells #[.int .i64 i] 3)).alloc (.cells #[.func (.func 72) #[] #[.pointer (some ⟨w.heap.size, 0, none⟩)]] 126)
  rw [size_alloc] at H1
  obtain ⟨gb, hgb⟩ : ∃ b, w.heap.size = b := ⟨_, rfl⟩
  obtain ⟨ob, hob⟩ : ∃ b, gb + 1 = b := ⟨_, rfl⟩
  rw [hgb, hob] at H1
  rw [hgb, hob]
  clear hgb hob
  have H1' := H1.up2
  have K := sl_waiting s hs hr H1'
  rw [HL.out] at K
  have HK := Lib.hid K
  clear K
  refine HK.out.mono ?_
  rintro e w1 ⟨a, cap, rfl, hrd, hnew, f1⟩
  have H2 := H1'.later f1
  clear HK H1 H1' hnew f1
  have hm := hrd.2.1
  unfold maxLen at hm
  obtain ⟨S, hS, rgb, sp, rp, R, P, Q, hq⟩ := H2.on
  obtain ⟨c0, c1, c2, c3, c4, c5, cf⟩ := pipe_cells hq.row
  rw [HC.out] at c3
  have gl := lt_of_block hq.row
  obtain ⟨n, hn⟩ : ∃ n, L.length = n := ⟨_, rfl⟩
  rw [hn]
  rw [hn] at hrd hm
  have K2 := fun w' (f : Frm Nil w1 w') => sl_cap (H2.later f)
  rw [HZ.out] at K2
  have K3 := fun w' (f : Frm Nil w1 w') => wtr_contains (w := w') (cap := cap) (cv := .pointer (some ⟨ob, 0, none⟩)) (fun m => !(m.g == i)) (enters Try.func74 (by kernel_rfl) (by kernel_rfl)) hn.symm (hrd.nil f) (fun m w'' f' => alone2 m (f'.blk (f.blk H2.at2 id) id) (f'.blk (f.blk H2.at1 id) id))
  have HK2 := Lib.hid K2
  have HK3 := Lib.hid K3
  have HN := Lib.hid hn
  clear K2 K3 hn hq
  by_cases h0 : 0 < n
  · have hb0 : decide (0 < (n : Int)) = true := by simpa using h0
    have hb0' : decide (0 < n) = true := by simpa using h0
    cases cl with
    | true =>
      go_wp2_with fail
      go_ret
      exact ⟨ret_bool (by rw [HN.out, hb0']; rfl), by repeat (first | with_reducible refine SL.drewN ?_ _ | with_reducible refine SL.drew ?_ | with_reducible exact H2.drop1.drop1)⟩
    | false =>
      by_cases hz : z = 0
      · have hbz : ((z : Int) == 0) = true := by simp [hz]
        have hbz' : decide (z = 0) = true := by simp [hz]
        have hi : (z : Int) = 0 := by simp [hz]
        clear hz
        go_wp2_with fail
        refine (HK2.out _ (by repeat (first | with_reducible exact Frm.refl _ _ | apply Frm.drewN | apply Frm.drew | apply Frm.alloc))).mono ?_
        rintro e w' ⟨rfl, rfl⟩
        go_wp2_with fail
        refine (HK3.out _ (by repeat (first | with_reducible exact Frm.refl _ _ | apply Frm.drewN | apply Frm.drew | apply Frm.alloc))).mono ?_
        rintro e w' ⟨rfl, f2⟩
        go_wp2_with fail
        go_ret
        refine ⟨ret_bool (by rw [HN.out, hb0', hbz']; rfl), ?_⟩
        have H3 := H2.later f2
        repeat (first | with_reducible refine SL.drewN ?_ _ | with_reducible refine SL.drew ?_ | with_reducible exact H3.drop1.drop1)
      · have hbz : ((z : Int) == 0) = false := by simp; omega
        have hbz' : decide (z = 0) = false := by simp [hz]
        go_wp2_with fail
        refine (HK2.out _ (by repeat (first | with_reducible exact Frm.refl _ _ | apply Frm.drewN | apply Frm.drew | apply Frm.alloc))).mono ?_
        rintro e w' ⟨rfl, rfl⟩
        go_wp2_with fail
        go_ret
        exact ⟨ret_bool (by rw [HN.out, hb0', hbz']; rfl), by repeat (first | with_reducible refine SL.drewN ?_ _ | with_reducible refine SL.drew ?_ | with_reducible exact H2.drop1.drop1)⟩
  · have hb0 : decide (0 < (n : Int)) = false := by simpa using h0
    have hb0' : decide (0 < n) = false := by simpa using h0
    go_wp2_with fail
    go_ret
    exact ⟨ret_bool (by rw [HN.out, hb0']; rfl), by repeat (first | with_reducible refine SL.drewN ?_ _ | with_reducible refine SL.drew ?_ | with_reducible exact H2.drop1.drop1)⟩
end

end Go.Proofs.Ytlccpbdpfamekaa
