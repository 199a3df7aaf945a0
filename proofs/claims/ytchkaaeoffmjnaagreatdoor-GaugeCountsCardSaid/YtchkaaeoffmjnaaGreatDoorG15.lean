/- Texts of the proof, several in one file: LoomX11, GaugeP, GaugeQ, GaugeR, GaugeS, GaugeT, GaugeU, GaugeV. -/
import Derived.Test.YtchkaaeoffmjnaaGreatDoorG14
import Derived.Test.YtchkaaeoffmjnaaGreatDoorG04
namespace Go.Proofs.YtchkaaeoffmjnaaGreatDoor
set_option linter.unusedVariables false
set_option linter.unusedSimpArgs false
open Go.RowKit
def GW (m : Wtr) : Prop := (0 ≤ m.g ∧ m.g ≤ 511) ∧ (-1 ≤ m.case_ ∧ m.case_ ≤ 3) ∧ 0 ≤ m.value ∧ m.value ≤ 99
structure RP (y : PipeM) : Prop where
 b : ∀ v ∈ y.buf, 0 ≤ v ∧ v ≤ 99
 w : ∀ a, a ∈ y.senders ∨ a ∈ y.receivers → GW a
def RM (M : List PipeM) : Prop := ∀ y ∈ M, RP y
theorem RP.empty (n : Nat) : RP (emptyM n) := ⟨fun v h => absurd h (by simp [emptyM]), fun a h => by simp [emptyM] at h⟩
section
variable {M ys : List PipeM} {y : PipeM} {m : Wtr} {x : LmM}
theorem RM.at_ (h : RM M) (i : Nat) : RP (M.getD i (emptyM 0)) := by
 rw [List.getD_eq_getElem?_getD]
 cases hm : M[i]? with
 | none => exact RP.empty 0
 | some u => exact h u (List.mem_of_getElem? hm)
theorem RM.set (h : RM M) (i : Nat) (hy : RP y) : RM (M.set i y) := by
 intro z hz
 rcases List.mem_or_eq_of_mem_set hz with hz | rfl
 ·exact h z hz
 ·exact hy
theorem without_in {g : Int} {L : List Wtr} {a : Wtr} (h : a ∈ without g L) : a ∈ L := by
 unfold without at h
 exact (List.mem_filter.1 h).1
theorem RP.drop (h : RP y) (g : Int) : RP (dropM y g) := ⟨h.b, fun a ha => h.w a (ha.imp without_in without_in)⟩
theorem RM.drop (h : RM M) (g : Int) : RM (M.map (fun y => dropM y g)) := by
 intro z hz
 obtain ⟨u, hu, rfl⟩ := List.mem_map.1 hz
 exact (h u hu).drop g
theorem RM.named (h : RM x.M) : RM (pipesN x) := by
 intro z hz
 unfold pipesN at hz
 obtain ⟨n, _, rfl⟩ := List.mem_map.1 hz
 split
 ·exact h.at_ _
 ·exact RP.empty 0
theorem RM.back : ∀ (ns : List Int) (ys M : List PipeM), RM ys → RM M → RM (backN ns ys M)
 | [], _, _, _, h => by unfold backN; exact h
 | n :: ns, [], _, _, h => by unfold backN; exact h
 | n :: ns, y :: ys, M, hy, h => by
  unfold backN
  refine RM.back ns ys _ (fun z hz => hy z (List.mem_cons_of_mem _ hz)) ?_
  split
  ·exact h.set _ (hy y List.mem_cons_self)
  ·exact h
theorem RP.wait (h : RP y) (s : Bool) (hm : GW m) : RP (waitF y s m).2 :=
 ⟨by rw [wait_buf]; exact h.b, fun a ha => (wait_wt y s m a ha).elim (h.w a) (fun e => by rw [e]; exact hm)⟩
theorem RP.close (h : RP y) : RP (closeF y).2 := by
 refine ⟨by rw [close_buf]; exact h.b, fun a ha => ?_⟩
 unfold closeF at ha
 split at ha
 ·exact h.w a ha
 ·simp at ha
theorem close_wts (h : RP y) : (∀ a ∈ (closeF y).1.1, GW a) ∧ ∀ a ∈ (closeF y).1.2.1, GW a := by
 unfold closeF
 split
 ·exact ⟨fun a ha => absurd ha List.not_mem_nil, fun a ha => absurd ha List.not_mem_nil⟩
 ·exact ⟨fun a ha => h.w a (.inr ha), fun a ha => h.w a (.inl ha)⟩
theorem RP.send (h : RP y) {v : Int} (hv : 0 ≤ v ∧ v ≤ 99) : RP (sendF y v).2 := by
 refine ⟨?_, fun a ha => h.w a (send_wt y v a ha)⟩
 unfold sendF
 split
 ·exact h.b
 ·split
  ·exact h.b
  ·split
   ·intro u hu
    rcases List.mem_append.1 hu with hu | hu
    ·exact h.b u hu
    ·rw [List.mem_singleton.1 hu]; exact hv
   ·exact h.b
theorem RP.recv (h : RP y) : RP (recvF y).2 := by
 refine ⟨?_, fun a ha => h.w a (recv_wt y a ha)⟩
 unfold recvF
 split
 ·rename_i b L m l hb hs
  intro u hu
  rcases List.mem_append.1 hu with hu | hu
  ·exact h.b u (by rw [hb]; exact List.mem_cons_of_mem _ hu)
  ·rw [List.mem_singleton.1 hu]
   exact (h.w m (.inl (by rw [hs]; exact List.mem_cons_self))).2.2
 ·rename_i b L hb hs
  intro u hu
  exact h.b u (by rw [hb]; exact List.mem_cons_of_mem _ hu)
 ·rename_i m l hb hs
  intro u hu
  exact h.b u hu
 ·split <;> exact h.b
theorem RM.try_ (h : RM M) (ok : List Bool) {c : CaseM} (hv : 0 ≤ c.value ∧ c.value ≤ 99) : RM (tryF ok M c).2 := by
 unfold tryF
 split
 ·exact h
 ·split
  ·exact h.set _ ((h.at_ _).send hv)
  ·exact h.set _ (h.at_ _).recv
/-- What is got. -/
theorem try_got (h : RM M) (ok : List Bool) (c : CaseM) : ((tryF ok M c).1.1.woke = true → GW (tryF ok M c).1.1.mate) ∧ (c.send = false → (0 ≤ (tryF ok M c).1.1.value ∧ (tryF ok M c).1.1.value ≤ 99) ∧ ((tryF ok M c).1.1.ok = false → (tryF ok M c).1.1.value = 0 ∧ (tryF ok M c).1.1.woke = false)) := by
 unfold tryF
 split
 ·simp [gzero]
 ·rename_i i hi
  have hh := h.at_ i
  split
  ·rename_i hs
   refine ⟨?_, fun h => by rw [hs] at h; cases h⟩
   unfold sendF
   split
   ·simp [gzero]
   ·split
    ·rename_i m l hr
     exact fun _ => hh.w m (.inr (by rw [hr]; exact List.mem_cons_self))
    ·split <;> simp [gzero]
  ·unfold recvF
   split
   ·rename_i b L m l hb hs
    exact ⟨fun _ => hh.w m (.inl (by rw [hs]; exact List.mem_cons_self)), fun _ => ⟨hh.b b (by rw [hb]; exact List.mem_cons_self), fun h => by cases h⟩⟩
   ·rename_i b L hb hs
    exact ⟨fun h => (by cases h), fun _ => ⟨hh.b b (by rw [hb]; exact List.mem_cons_self), fun h => by cases h⟩⟩
   ·rename_i m l hb hs
    have := hh.w m (.inl (by rw [hs]; exact List.mem_cons_self))
    exact ⟨fun _ => this, fun _ => ⟨this.2.2, fun h => by cases h⟩⟩
   ·split <;> simp [gzero]
theorem RM.parkK (h : RM M) (ok : List Bool) {g : Int} (hg : 0 ≤ g ∧ g ≤ 511) (L : List CaseM) (hL : ∀ c ∈ L, 0 ≤ c.value ∧ c.value ≤ 99) (h4 : L.length ≤ 4) : ∀ k, k ≤ L.length → RM (Go.Proofs.YtchkaaeoffmjnaaGreatDoor.parkK ok g L M k).2
 | 0, _ => h
 | k + 1, hk => by
  have ih := RM.parkK h ok hg L hL h4 k (by omega)
  unfold Go.Proofs.YtchkaaeoffmjnaaGreatDoor.parkK
  split
  ·exact ih
  ·refine ih.set _ ((ih.at_ _).wait _ ⟨hg, by dsimp only; omega, ?_⟩)
   dsimp only
   rw [List.getD_eq_getElem?_getD, List.getElem?_eq_getElem (by omega)]
   exact hL _ (List.getElem_mem _)
theorem RM.parkF (h : RM M) (ok : List Bool) {g : Int} (hg : 0 ≤ g ∧ g ≤ 511) (L : List CaseM) (hL : ∀ c ∈ L, 0 ≤ c.value ∧ c.value ≤ 99) (h4 : L.length ≤ 4) : RM (Go.Proofs.YtchkaaeoffmjnaaGreatDoor.parkF ok g L M).2 := by
 unfold Go.Proofs.YtchkaaeoffmjnaaGreatDoor.parkF
 split
 ·exact h
 ·split
  ·exact h
  ·exact h.parkK ok hg L hL h4 _ (Nat.le_refl _)
end
section
variable {g n a m v k : Int}
theorem ev_spawn (hg : 0 ≤ g ∧ g ≤ 511) (ha : 0 ≤ a ∧ a ≤ 7) (hm : 0 ≤ m ∧ m ≤ 511) : entF ⟨1, g, -1, -1, a, m, false, false⟩ = 0 := by
 simp [entF, shapeF, oddF, inn]; omega
theorem ev_make (hg : 0 ≤ g ∧ g ≤ 511) (hn : 0 ≤ n ∧ n ≤ 511) (ha : 0 ≤ a ∧ a ≤ 4) : entF ⟨2, g, n, -1, a, -1, false, false⟩ = 0 := by
 simp [entF, shapeF, oddF, inn]; omega
theorem ev_send (hg : 0 ≤ g ∧ g ≤ 511) (hn : 0 ≤ n ∧ n ≤ 511) (ha : -1 ≤ a ∧ a ≤ 3) (hv : 0 ≤ v ∧ v ≤ 99) (hm : -1 ≤ m ∧ m ≤ 511) : entF ⟨3, g, n, a, v, m, true, false⟩ = 0 := by
 simp [entF, shapeF, oddF, inn]; omega
theorem ev_recv {ok : Bool} (hg : 0 ≤ g ∧ g ≤ 511) (hn : 0 ≤ n ∧ n ≤ 511) (ha : -1 ≤ a ∧ a ≤ 3) (hv : 0 ≤ v ∧ v ≤ 99) (hm : -1 ≤ m ∧ m ≤ 511) (ho : ok = false → v = 0 ∧ m = -1) : entF ⟨4, g, n, a, v, m, false, ok⟩ = 0 := by
 cases ok with
 | true => simp [entF, shapeF, oddF, inn]; omega
 | false =>
  obtain ⟨rfl, rfl⟩ := ho rfl
  simp [entF, shapeF, oddF, inn]; omega
theorem ev_close (hg : 0 ≤ g ∧ g ≤ 511) (hn : 0 ≤ n ∧ n ≤ 511) : entF ⟨5, g, n, -1, -1, -1, false, false⟩ = 0 := by
 simp [entF, shapeF, oddF, inn]; omega
theorem ev_park {s : Bool} (hg : 0 ≤ g ∧ g ≤ 511) (hn : -1 ≤ n ∧ n ≤ 511) (hv : 0 ≤ v ∧ v ≤ 99) (hs : s = false → v = 0) : entF ⟨6, g, n, -1, v, -1, s, false⟩ = 0 := by
 cases s with
 | true => simp [entF, shapeF, oddF, inn]; omega
 | false =>
  obtain rfl := hs rfl
  simp [entF, shapeF, oddF, inn]; omega
theorem ev_parks (hg : 0 ≤ g ∧ g ≤ 511) (hk : 0 ≤ k ∧ k ≤ 4) : entF ⟨6, g, -1, k, 0, -1, false, false⟩ = 0 := by
 simp [entF, shapeF, oddF, inn]; omega
theorem ev_wake {s : Bool} (hg : 0 ≤ g ∧ g ≤ 511) (hn : 0 ≤ n ∧ n ≤ 511) (ha : -1 ≤ a ∧ a ≤ 3) (hv : 0 ≤ v ∧ v ≤ 99) (hm : 0 ≤ m ∧ m ≤ 511) : entF ⟨7, g, n, a, v, m, s, true⟩ = 0 := by
 cases s <;> simp [entF, shapeF, oddF, inn] <;> omega
theorem ev_woken (hg : 0 ≤ g ∧ g ≤ 511) (hn : 0 ≤ n ∧ n ≤ 511) (ha : -1 ≤ a ∧ a ≤ 3) (hm : 0 ≤ m ∧ m ≤ 511) : entF ⟨7, g, n, a, 0, m, false, false⟩ = 0 := by
 simp [entF, shapeF, oddF, inn]; omega
theorem ev_cells (hk : k = 9 ∨ k = 10) (hg : 0 ≤ g ∧ g ≤ 511) (ha : 0 ≤ a ∧ a ≤ 7) : entF ⟨k, g, -1, -1, a, -1, false, false⟩ = 0 := by
 rcases hk with rfl | rfl <;> simp [entF, shapeF, oddF, inn] <;> omega
theorem ev_bare (hk : k = 8 ∨ k = 11 ∨ k = 12) (hg : 0 ≤ g ∧ g ≤ 511) : entF (bareE k g) = 0 := by
 rcases hk with rfl | rfl | rfl <;> simp [bareE, entF, shapeF, oddF, inn] <;> exact ⟨decide_eq_true hg.1, decide_eq_true hg.2⟩
theorem ev_compact : entF (bareE 13 (-1)) = 0 := by decide
end
structure Rgt (n : Nat) (x : LmM) : Prop where
 m : RM x.M
 e : ∀ e ∈ x.tr, entF e = 0
 c : x.crew.length ≤ n + 1
 k : x.M.length ≤ n
 l : ∀ a ∈ x.name, -1 ≤ a
def OpV (o : OpM) : Prop := ∀ c ∈ o.cases, 0 ≤ c.value ∧ c.value ≤ 99
namespace Rgt
variable {n np kk : Nat} {x : LmM}
theorem note (h : Rgt n x) {e : Ev} (he : entF e = 0) : Rgt n (noteL x e) := ⟨h.m, fun a ha => (List.mem_append.1 ha).elim (h.e a) (fun ha => by rw [List.mem_singleton.1 ha]; exact he), h.c, h.k, h.l⟩
theorem setM (h : Rgt n x) {M : List PipeM} (hM : RM M) (hl : M.length = x.M.length) : Rgt n { x with M := M } := ⟨hM, h.e, h.c, by show M.length ≤ n; rw [hl]; exact h.k, h.l⟩
theorem turn (h : Rgt n x) (g fr to : Int) : Rgt n (turnL x g fr to) := ⟨h.m, h.e, by show (turnF x.crew g fr to (byOf fr to)).2.length ≤ n + 1; rw [turn_len]; exact h.c, h.k, h.l⟩
theorem wake (h : Rgt n x) {e : Ev} (he : entF e = 0) : Rgt n (wakeL x e) := ((h.note he).setM (M := x.M.map (fun y => dropM y e.g)) (h.m.drop e.g) (List.length_map _)).turn e.g 1 0
theorem panic (h : Rgt n x) {g : Int} (hg : 0 ≤ g ∧ g ≤ 511) : Rgt n (panicL x g) := by
 have h1 := h.note (ev_bare (k := 12) (.inr (.inr rfl)) hg)
 exact ⟨h1.m, h1.e, h1.c, h1.k, h1.l⟩
theorem wakes {g ch : Int} (hg : 0 ≤ g ∧ g ≤ 511) (hn : 0 ≤ ch ∧ ch ≤ 511) : ∀ (ws : List Wtr) {x : LmM}, Rgt n x → (∀ a ∈ ws, GW a) → Rgt n (wakesL x g ch ws)
 | [], _, h, _ => h
 | w :: ws, x, h, hw => by
  have h1 := hw w List.mem_cons_self
  unfold wakesL
  refine wakes hg hn ws ?_ (fun a ha => hw a (List.mem_cons_of_mem _ ha))
  split
  ·exact h.wake (ev_woken h1.1 hn h1.2.1 hg)
  ·exact h
theorem senders : ∀ (ws : List Wtr) {x : LmM}, Rgt n x → (∀ a ∈ ws, GW a) → Rgt n (sendersL x ws)
 | [], _, h, _ => h
 | w :: ws, x, h, hw => by
  unfold sendersL
  split
  ·exact h.panic (hw w List.mem_cons_self).1
  ·exact senders ws h (fun a ha => hw a (List.mem_cons_of_mem _ ha))
theorem num (h : Rgt n x) (hk : Lk np kk x) (hn : n ≤ 511) {c : Int} (hc : 0 ≤ c ∧ c < 8) : -1 ≤ numL x c ∧ numL x c ≤ 511 := by
 obtain ⟨j, rfl⟩ := Int.eq_ofNat_of_zero_le hc.1
 have hj : j < 8 := by omega
 have h1 := num_lt hk hj
 have h2 := h.k
 have hj' : j < x.name.length := by rw [hk.n8]; exact hj
 refine ⟨?_, by omega⟩
 rw [numL_get hj']
 exact h.l _ (List.getElem_mem hj')
theorem talk (h : Rgt n x) (hk : Lk np kk x) (hn : n ≤ 511) {g : Int} (hg : 0 ≤ g ∧ g ≤ 511) {c : CaseM} (hc : 0 ≤ c.chan ∧ c.chan < 8) (hv : 0 ≤ c.value ∧ c.value ≤ 99) (h0 : 0 ≤ numL x c.chan) {a : Int} (ha : -1 ≤ a ∧ a ≤ 3) : Rgt n (talkL x g c a) := by
 have hch : 0 ≤ numL x c.chan ∧ numL x c.chan ≤ 511 := ⟨h0, (h.num hk hn hc).2⟩
 have hM := h.m.named.try_ (okN x) hv
 obtain ⟨hw, hr⟩ := try_got h.m.named (okN x) c
 have h1 : Rgt n { x with M := backN x.name (tryF (okN x) (pipesN x) c).2 x.M } := h.setM (RM.back _ _ _ hM h.m) (backN_len _ _ _)
 unfold talkL
 dsimp only
 split
 ·exact h1.panic hg
 ·have hmate : -1 ≤ (if (tryF (okN x) (pipesN x) c).1.1.woke = true then (tryF (okN x) (pipesN x) c).1.1.mate.g else -1) ∧ (if (tryF (okN x) (pipesN x) c).1.1.woke = true then (tryF (okN x) (pipesN x) c).1.1.mate.g else -1) ≤ 511 := by
   split
   ·rename_i hwk
    have := (hw hwk).1
    omega
   ·decide
  have h2 : ∀ e : Ev, entF e = 0 → Rgt n (turnL (noteL { x with M := backN x.name (tryF (okN x) (pipesN x) c).2 x.M } e) g 0 0) := fun e he => (h1.note he).turn g 0 0
  have hev : entF (if c.send = true then ⟨3, g, numL x c.chan, a, c.value, if (tryF (okN x) (pipesN x) c).1.1.woke = true then (tryF (okN x) (pipesN x) c).1.1.mate.g else -1, true, false⟩ else ⟨4, g, numL x c.chan, a, (tryF (okN x) (pipesN x) c).1.1.value, if (tryF (okN x) (pipesN x) c).1.1.woke = true then (tryF (okN x) (pipesN x) c).1.1.mate.g else -1, false, (tryF (okN x) (pipesN x) c).1.1.ok⟩) = 0 := by
   split
   ·exact ev_send hg hch ha hv hmate
   ·rename_i hs
    obtain ⟨r1, r2⟩ := hr (by simpa using hs)
    exact ev_recv hg hch ha r1 hmate (fun ho => ⟨(r2 ho).1, by rw [(r2 ho).2]; rfl⟩)
  generalize (if c.send = true then (⟨3, g, numL x c.chan, a, c.value, if (tryF (okN x) (pipesN x) c).1.1.woke = true then (tryF (okN x) (pipesN x) c).1.1.mate.g else -1, true, false⟩ : Ev) else ⟨4, g, numL x c.chan, a, (tryF (okN x) (pipesN x) c).1.1.value, if (tryF (okN x) (pipesN x) c).1.1.woke = true then (tryF (okN x) (pipesN x) c).1.1.mate.g else -1, false, (tryF (okN x) (pipesN x) c).1.1.ok⟩) = E at hev ⊢
  split
  ·rename_i hwk
   have gm := hw hwk
   refine (h2 _ hev).wake (ev_wake gm.1 hch gm.2.1 ?_ hg)
   split
   ·exact hv
   ·exact gm.2.2
  ·exact h2 _ hev
theorem alone (h : Rgt n x) (hk : Lk np kk x) (hn : n ≤ 511) {g : Int} (hg : 0 ≤ g ∧ g ≤ 511) {c : CaseM} (hc : 0 ≤ c.chan ∧ c.chan < 8) (hv : 0 ≤ c.value ∧ c.value ≤ 99) (hs : c.send = false → c.value = 0) : Rgt n (aloneL x g c) := by
 have hnum := h.num hk hn hc
 unfold aloneL
 split
 ·rename_i hr
  refine h.talk hk hn hg hc hv ?_ ⟨by decide, by decide⟩
  obtain ⟨s, ch, v⟩ := c
  dsimp only at hc
  obtain ⟨j, rfl⟩ := Int.eq_ofNat_of_zero_le hc.1
  rw [readyC_num hk (by omega)] at hr
  by_cases h0 : 0 ≤ numL x (j : Int)
  ·exact h0
  ·rw [if_neg h0] at hr
   cases hr
 ·dsimp only
  refine turn ?_ g 0 1
  have h1 := h.note (ev_park (s := c.send) hg hnum hv hs)
  split
  ·exact h1.setM (h1.m.set _ ((h1.m.at_ _).wait _ ⟨hg, ⟨show (-1 : Int) ≤ -1 by decide, show (-1 : Int) ≤ 3 by decide⟩, hv⟩)) (List.length_set)
  ·exact h1
theorem shut (h : Rgt n x) (hk : Lk np kk x) (hn : n ≤ 511) {g c : Int} (hg : 0 ≤ g ∧ g ≤ 511) (hc : 0 ≤ c ∧ c < 8) : Rgt n (shutL x g c) := by
 have hnum := h.num hk hn hc
 unfold shutL
 dsimp only
 split
 ·exact h.panic hg
 ·split
  ·exact h.panic hg
  ·have h1 : Rgt n { x with M := x.M.set (numL x c).toNat (closeF (x.M.getD (numL x c).toNat (emptyM 0))).2 } := h.setM (h.m.set _ (h.m.at_ _).close) List.length_set
   obtain ⟨w1, w2⟩ := close_wts (h.m.at_ (numL x c).toNat)
   exact senders _ (wakes hg ⟨by omega, hnum.2⟩ _ ((h1.note (ev_close hg ⟨by omega, hnum.2⟩)).turn g 0 0) w1) w2
theorem choose (h : Rgt n x) (hk : Lk np kk x) (hn : n ≤ 511) {g : Int} (hg : 0 ≤ g ∧ g ≤ 511) {o : OpM} (ho : OpOk np o) (hv : OpV o) (s : ScrM) : Rgt n (chooseL s x g o) := by
 unfold chooseL
 dsimp only
 split
 ·rename_i hl
  have hm := draw_lt s x hl
  rw [show (readyL (okN x) (pipesN x) o.cases).getD (drawL s x (readyL (okN x) (pipesN x) o.cases).length).1 0 = (readyL (okN x) (pipesN x) o.cases)[(drawL s x (readyL (okN x) (pipesN x) o.cases).length).1] from by rw [List.getD_eq_getElem?_getD, List.getElem?_eq_getElem hm]; rfl]
  obtain ⟨i, hi, hil, hr⟩ := ready_mem (List.getElem_mem hm)
  rw [hi, Int.toNat_natCast]
  have hin : o.cases.getD i ⟨false, 0, 0⟩ ∈ o.cases := by
   rw [List.getD_eq_getElem?_getD, List.getElem?_eq_getElem hil]
   exact List.getElem_mem hil
  have hch := ho.ch _ hin
  have hcl := ho.cl
  rw [drawL_I]
  have h1 : Rgt n { x with d := (drawI s.draws x.d (readyL (okN x) (pipesN x) o.cases).length).2 } := ⟨h.m, h.e, h.c, h.k, h.l⟩
  refine h1.talk (hk.dd _) hn hg hch (hv _ hin) ?_ (by omega)
  show 0 ≤ numL x (o.cases.getD i ⟨false, 0, 0⟩).chan
  revert hr hch
  generalize o.cases.getD i ⟨false, 0, 0⟩ = c0
  intro hr hch
  obtain ⟨s1, ch1, v1⟩ := c0
  dsimp only at hch ⊢
  obtain ⟨j, rfl⟩ := Int.eq_ofNat_of_zero_le hch.1
  rw [readyC_num hk (by omega)] at hr
  by_cases h0 : 0 ≤ numL x (j : Int)
  ·exact h0
  ·rw [if_neg h0] at hr
   cases hr
 ·split
  ·exact (h.note (ev_bare (.inl rfl) hg)).turn g 0 0
  ·have hcl := ho.cl
   have h1 := h.note (ev_parks (g := g) (k := (o.cases.length : Int)) hg (by omega))
   refine turn ?_ g 0 1
   exact h1.setM (RM.back _ _ _ (h.m.named.parkF (okN x) hg o.cases hv ho.cl) h.m) (backN_len _ _ _)
theorem spawn_got (L : List One) (p : Int) (hL : L.length ≤ 512) : (0 ≤ (spawnF L p).1.1 ∧ (spawnF L p).1.1 ≤ 511) ∧ (spawnF L p).2.length ≤ L.length + 1 := by
 unfold spawnF
 split
 ·exact ⟨⟨show (0 : Int) ≤ 0 by decide, show (0 : Int) ≤ 511 by decide⟩, by dsimp only; omega⟩
 ·split
  ·exact ⟨⟨show (0 : Int) ≤ 0 by decide, show (0 : Int) ≤ 511 by decide⟩, by dsimp only; omega⟩
  ·exact ⟨by dsimp only; omega, by simp⟩
theorem other (h : Rgt n x) (hk : Lk np kk x) (hn : n ≤ 511) {g : Int} (hg : 0 ≤ g ∧ g ≤ 511) {o : OpM} (ho : OpOk np o) : Rgt (n + 1) (otherL x g o) := by
 have up : ∀ {z : LmM}, Rgt n z → Rgt (n + 1) z := fun h => ⟨h.m, h.e, Nat.le_succ_of_le h.c, Nat.le_succ_of_le h.k, h.l⟩
 have ha : 0 ≤ o.a ∧ o.a ≤ 7 := by have := ho.a0; have := ho.a1; omega
 unfold otherL
 split
 ·obtain ⟨s1, s2⟩ := spawn_got x.crew o.a hk.cl
  have h1 : Rgt (n + 1) { x with crew := (spawnF x.crew o.a).2 } := ⟨h.m, h.e, by show (spawnF x.crew o.a).2.length ≤ _; have := h.c; omega, Nat.le_succ_of_le h.k, h.l⟩
  exact (h1.note (ev_spawn hg ha s1)).turn g 0 0
 ·split
  ·rename_i h2
   have hb := ho.cap h2
   have hb0 := ho.b0
   have hkk := h.k
   have h1 : Rgt (n + 1) { x with M := x.M ++ [emptyM o.b.toNat], name := x.name.set o.a.toNat x.M.length } := by
    refine ⟨fun y hy => ?_, h.e, Nat.le_succ_of_le h.c, by show (x.M ++ [emptyM o.b.toNat]).length ≤ n + 1; simp; exact h.k, fun a ha => ?_⟩
    ·rcases List.mem_append.1 hy with hy | hy
     ·exact h.m y hy
     ·rw [List.mem_singleton.1 hy]; exact RP.empty _
    ·rcases List.mem_or_eq_of_mem_set ha with ha | rfl
     ·exact h.l a ha
     ·omega
   exact (h1.note (ev_make hg (by omega) ⟨hb0, hb⟩)).turn g 0 0
  ·split
   ·exact up ((h.note (ev_cells (.inl rfl) hg ha)).turn g 0 0)
   ·split
    ·exact up ((h.note (ev_cells (.inr rfl) hg ha)).turn g 0 0)
    ·exact up ((h.turn g 0 2).note (ev_bare (.inr (.inl rfl)) hg))
theorem does (h : Rgt n x) (hk : Lk np kk x) (hn : n ≤ 511) {g : Int} (hg : 0 ≤ g ∧ g ≤ 511) {o : OpM} (ho : OpOk np o) (hv : OpV o) (s : ScrM) : Rgt (n + 1) (doesL s x g o) := by
 have up : ∀ {z : LmM}, Rgt n z → Rgt (n + 1) z := fun h => ⟨h.m, h.e, Nat.le_succ_of_le h.c, Nat.le_succ_of_le h.k, h.l⟩
 unfold doesL
 split
 ·exact up (h.alone hk hn hg ⟨ho.a0, ho.a1⟩ ⟨ho.b0, ho.b1⟩ (fun h => by cases h))
 ·split
  ·exact up (h.alone hk hn hg ⟨ho.a0, ho.a1⟩ ⟨show (0 : Int) ≤ 0 by decide, show (0 : Int) ≤ 99 by decide⟩ (fun _ => rfl))
  ·split
   ·exact up (h.shut hk hn hg ⟨ho.a0, ho.a1⟩)
   ·split
    ·exact up (h.choose hk hn hg ho hv s)
    ·exact h.other hk hn hg ho
end Rgt
def ProgsV (ps : List (List OpM)) : Prop := ∀ p ∈ ps, ∀ o ∈ p, OpV o
theorem opL_V {s : ScrM} (hs : ProgsV s.progs) (x : LmM) (g : Int) : OpV (opL s x g) := by
 have he : OpV exitOp := fun c hc => absurd hc (by simp [exitOp])
 unfold opL
 split
 ·exact he
 ·split
  ·exact he
  ·rename_i p hp
   split
   ·exact he
   ·rw [List.getD_eq_getElem?_getD]
    cases ho : p[(_ : One).place.toNat]? with
    | none => exact he
    | some o => exact hs p (List.mem_of_getElem? hp) o (List.mem_of_getElem? ho)
theorem opE_V {np : Nat} {o : OpM} (h : opE np o = 0) : OpV o := by
 unfold opE at h
 split at h
 ·cases h
 ·split at h
  ·cases h
  ·split at h
   ·cases h
   ·split at h
    ·cases h
    ·split at h
     ·rename_i h5
      intro c hc
      have := List.all_eq_true.1 h5 c hc
      unfold caseR at this
      cases hs : c.send with
      | true =>
       rw [hs] at this
       simp [withinF] at this
       exact this.2
      | false =>
       rw [hs] at this
       simp [withinF] at this
       rw [this.2]
       decide
     ·cases h
theorem checkE_V {s : ScrM} (h : checkE s = 0) : ProgsV s.progs := by
 unfold checkE at h
 split at h
 ·cases h
 ·split at h
  ·cases h
  ·split at h
   ·cases h
   ·split at h
    ·cases h
    ·split at h
     ·cases h
     ·rename_i h5
      simp only [Bool.not_eq_false] at h5
      intro p hp o ho
      have := List.all_eq_true.1 h5 p hp
      have := List.all_eq_true.1 this o ho
      exact opE_V (eq_of_beq this)
theorem Rgt.step {n np kk : Nat} {s : ScrM} {x : LmM} (h : Rgt n x) (hk : Lk np kk x) (hn : n ≤ 511) (hs : ProgsOk s.progs) (hp : s.progs.length = np) (h1 : 1 ≤ np) (hv : ProgsV s.progs) : Rgt (n + 1) (stepL s x) := by
 have up : ∀ {z : LmM}, Rgt n z → Rgt (n + 1) z := fun h => ⟨h.m, h.e, Nat.le_succ_of_le h.c, Nat.le_succ_of_le h.k, h.l⟩
 have h2 : Rgt n { x with p := x.p + 1 } := ⟨h.m, h.e, h.c, h.k, h.l⟩
 unfold stepL
 split
 ·exact up h
 ·rename_i hver
  have hver : verL s x = 0 := Classical.byContradiction hver
  split
  ·exact up (h2.note ev_compact)
  ·rename_i h0
   have hw := who_in hver h0
   have hcl := hk.cl
   subst hp
   exact h2.does (hk.pp (x.p + 1)) hn (by omega) (opL_ok hs h1 x _) (opL_V hv x _) s
theorem Rgt.new : Rgt 0 newL := ⟨fun y hy => absurd hy List.not_mem_nil, fun e he => absurd he List.not_mem_nil, Nat.le_refl _, Nat.le_refl _, fun a ha => by rw [List.eq_of_mem_replicate ha]; decide⟩
theorem Rgt.run {np : Nat} {s : ScrM} (hs : ProgsOk s.progs) (hp : s.progs.length = np) (h1 : 1 ≤ np) (hv : ProgsV s.progs) : ∀ n, n ≤ 512 → Rgt n (runL s n)
 | 0, _ => Rgt.new
 | n + 1, hn => (Rgt.run hs hp h1 hv n (by omega)).step (Lk.run hs hp h1 n) (by omega) hs hp h1 hv
theorem run_right {s : ScrM} (h : checkE s = 0) : ∀ e ∈ (runL s (s.plan.length + 1)).tr, entF e = 0 := by
 have hr := checkE_right h
 have hpl := hr.pl
 exact (Rgt.run hr.ok rfl hr.n1 (checkE_V h) (s.plan.length + 1) (by omega)).e
section
variable (x : LmM)
end
end Go.Proofs.YtchkaaeoffmjnaaGreatDoor
namespace Go.Proofs.YtchkaaeoffmjnaaGreatDoor
set_option linter.unusedVariables false
set_option linter.unusedSimpArgs false
structure ChnM where
 size : Int
 buf : List Int
 closed : Bool
structure RdrM where
 crew : List (Bool × Bool)
 chans : List ChnM
 closer : Ev
 over : Bool
def evz : Ev := ⟨0, 0, 0, 0, 0, 0, false, false⟩
def servesF (e : Ev) : Bool := decide (0 ≤ e.mate) && (e.kind == 3 || e.kind == 4)
def crewedF (r : RdrM) (e : Ev) : Bool × RdrM :=
 if r.over = true then (false, r)
 else if e.kind = 13 then (true, r)
 else match r.crew[e.g.toNat]? with
  | none => (false, r)
  | some x =>
   if x.2 = true then (false, r)
   else if e.kind ≠ 12 ∧ x.1 ≠ (e.kind == 7) then (false, r)
   else if e.kind = 1 then
    if e.mate ≠ r.crew.length then (false, { r with crew := r.crew.set e.g.toNat (e.kind == 6, e.kind == 11), over := e.kind == 12 })
    else (true, { r with crew := r.crew.set e.g.toNat (e.kind == 6, e.kind == 11) ++ [(false, false)], over := e.kind == 12 })
   else (true, { r with crew := r.crew.set e.g.toNat (e.kind == 6, e.kind == 11), over := e.kind == 12 })
def chanF (r : RdrM) (c : Int) : Option ChnM := if c < 0 then none else r.chans[c.toNat]?
def madeF (r : RdrM) (e : Ev) : Bool × RdrM :=
 if e.kind = 2 then
  if e.chan ≠ r.chans.length then (false, r) else (true, { r with chans := r.chans ++ [⟨e.value, [], false⟩] })
 else (e.chan == -1 || (chanF r e.chan).isSome, r)
def wantF (s e : Ev) : Ev := ⟨7, s.mate, s.chan, e.case_, if s.send = true then s.value else e.value, s.g, !s.send, true⟩
def servedF (r : RdrM) (prev : Option Ev) (e : Ev) : Bool × RdrM :=
 match prev.filter servesF with
 | some s => (decide (e = wantF s e), r)
 | none =>
  if e.kind = 7 then (r.closer.kind == 5 && e.mate == r.closer.g && e.chan == r.closer.chan && !e.send && !e.ok, r)
  else (true, { r with closer := e })
/-- What a channel holds behind an event, and whether that is right. -/
def takeF (c : ChnM) (next : Option Int) (e : Ev) : Bool × ChnM :=
 let L := if e.send = true then c.buf ++ [e.value] else if 0 ≤ e.mate then (match next with | some v => c.buf ++ [v] | none => c.buf) else c.buf
 let takes := if e.send = true then decide (0 ≤ e.mate) else true
 let missing := !e.send && decide (0 ≤ e.mate) && next.isNone
 match takes, L with
 | true, v :: L => (v == e.value && decide ((L.length : Int) ≤ c.size), { c with buf := L })
 | _, L => ((!takes || missing) && decide ((L.length : Int) ≤ c.size), { c with buf := L })
def orderedF (r : RdrM) (next : Option Int) (e : Ev) : Bool × RdrM :=
 match chanF r e.chan with
 | none => (true, r)
 | some c =>
  if e.kind ≠ 3 ∧ (e.kind ≠ 4 ∨ e.ok = false) then (true, r)
  else ((takeF c next e).1, { r with chans := r.chans.set e.chan.toNat (takeF c next e).2 })
def closedF (r : RdrM) (e : Ev) : Bool × RdrM :=
 match chanF r e.chan with
 | none => (true, r)
 | some c =>
  if e.kind = 5 then (!c.closed, { r with chans := r.chans.set e.chan.toNat { c with closed := true } })
  else if e.kind = 3 ∨ e.kind = 4 ∧ 0 ≤ e.mate then (!c.closed, r)
  else if e.kind = 4 ∧ e.ok = false then (c.closed && c.buf.isEmpty, r)
  else (true, r)
/-- The rule that an event breaks, and the state behind it. -/
def stepG (r : RdrM) (prev : Option Ev) (next : Option Int) (e : Ev) : Int × RdrM :=
 if entF e ≠ 0 then (1, r)
 else if (crewedF r e).1 = false then (2, (crewedF r e).2)
 else if (madeF (crewedF r e).2 e).1 = false then (3, (madeF (crewedF r e).2 e).2)
 else if (servedF (madeF (crewedF r e).2 e).2 prev e).1 = false then (4, (servedF (madeF (crewedF r e).2 e).2 prev e).2)
 else if (orderedF (servedF (madeF (crewedF r e).2 e).2 prev e).2 next e).1 = false then (5, (orderedF (servedF (madeF (crewedF r e).2 e).2 prev e).2 next e).2)
 else if (closedF (orderedF (servedF (madeF (crewedF r e).2 e).2 prev e).2 next e).2 e).1 = false then (6, (closedF (orderedF (servedF (madeF (crewedF r e).2 e).2 prev e).2 next e).2 e).2)
 else (0, (closedF (orderedF (servedF (madeF (crewedF r e).2 e).2 prev e).2 next e).2 e).2)
def prevF (l : List Ev) (i : Nat) : Option Ev := if i = 0 then none else l[i - 1]?
def nextF (l : List Ev) (i : Nat) : Option Int := (l[i + 1]?).map (·.value)
def stG (l : List Ev) : Nat → RdrM
 | 0 => ⟨[(false, false)], [], evz, false⟩
 | n + 1 => (stepG (stG l n) (prevF l n) (nextF l n) (l.getD n evz)).2
def brG (l : List Ev) (i : Nat) : Int := (stepG (stG l i) (prevF l i) (nextF l i) (l.getD i evz)).1
structure GoM where
 there : Nat
 waits : Bool
 exited : Bool
 over : Bool
def goR (l : List Ev) (g : Int) : Nat → GoM
  | 0 => ⟨1, false, false, false⟩
  | n + 1 =>
    let s := goR l g n
    let x := l.getD n evz
    ⟨if x.kind = 1 then s.there + 1 else s.there,
     if x.g ≠ g ∨ x.kind = 13 then s.waits else if x.kind = 7 then false else if x.kind = 6 then true else s.waits,
     if x.g ≠ g ∨ x.kind = 13 then s.exited else (s.exited || x.kind == 11),
     s.over || x.kind == 12⟩
def crewR (l : List Ev) (i : Nat) : Bool :=
 let e := l.getD i evz
 let s := goR l e.g i
 if s.over = true then false
 else if e.kind = 13 then true
 else decide (e.g < s.there) && !s.exited && (e.kind == 12 || s.waits == (e.kind == 7)) && (e.kind != 1 || e.mate == s.there)
def makesR (l : List Ev) : Nat → Nat
 | 0 => 0
 | n + 1 => if (l.getD n evz).kind = 2 then makesR l n + 1 else makesR l n
def madeR (l : List Ev) (i : Nat) : Bool :=
 if (l.getD i evz).kind = 2 then (l.getD i evz).chan == makesR l i else decide ((l.getD i evz).chan < makesR l i)
/-- The look back for a Close. -/
def backR (l : List Ev) (e : Ev) : Nat → Bool
 | 0 => false
 | k + 1 =>
  let x := l.getD k evz
  if x.kind = 5 then x.g == e.mate && x.chan == e.chan
  else if x.kind ≠ 7 ∨ (0 < k ∧ servesF (l.getD (k - 1) evz) = true) then false
  else backR l e k
def servedR (l : List Ev) (i : Nat) : Bool :=
 let e := l.getD i evz
 if 0 < i ∧ servesF (l.getD (i - 1) evz) = true then
  let s := l.getD (i - 1) evz
  e.kind == 7 && e.g == s.mate && e.mate == s.g && e.chan == s.chan && e.send != s.send && e.ok && (!s.send || e.value == s.value)
 else if e.kind ≠ 7 then true
 else if e.ok = true ∨ e.send = true then false
 else backR l e i
structure InsM where
 size : Int
 buf : List Int
 closed : Bool
 right : Bool
def insStep (l : List Ev) (c : Int) (i : Nat) (s : InsM) : InsM :=
 let e := l.getD i evz
 if e.chan ≠ c then s
 else
  let size := if e.kind = 2 then e.value else s.size
  let closed := if e.kind = 5 then true else s.closed
  if e.kind ≠ 3 ∧ (e.kind ≠ 4 ∨ e.ok = false) then ⟨size, s.buf, closed, s.right⟩
  else
   let last := decide (i + 1 = l.length)
   let L := if e.kind = 3 then s.buf ++ [e.value] else if 0 ≤ e.mate ∧ last = false then s.buf ++ [(l.getD (i + 1) evz).value] else s.buf
   if e.kind = 4 ∨ 0 ≤ e.mate then
    match L with
    | v :: L => ⟨size, L, closed, v == e.value && decide ((L.length : Int) ≤ size)⟩
    | [] => ⟨size, [], closed, (decide (0 ≤ e.mate) && last) && decide ((0 : Int) ≤ size)⟩
   else ⟨size, L, closed, true && decide ((L.length : Int) ≤ size)⟩
def insR (l : List Ev) (c : Int) : Nat → InsM
 | 0 => ⟨0, [], false, true⟩
 | n + 1 => insStep l c n (insR l c n)
def orderedR (l : List Ev) (i : Nat) : Bool :=
 let e := l.getD i evz
 if e.kind ≠ 3 ∧ (e.kind ≠ 4 ∨ e.ok = false) then true else (insR l e.chan (i + 1)).right
def closedR (l : List Ev) (i : Nat) : Bool :=
 let e := l.getD i evz
 if e.kind < 3 ∨ 5 < e.kind then true
 else
  let s := insR l e.chan i
  if e.kind = 4 ∧ e.ok = false then s.closed && s.buf.isEmpty
  else if e.kind = 4 ∧ e.mate < 0 then true
  else !s.closed
def brR (l : List Ev) (i : Nat) : Int :=
 if ref12 (l.getD i evz) ≠ 0 then 1
 else if crewR l i = false then 2
 else if madeR l i = false then 3
 else if servedR l i = false then 4
 else if orderedR l i = false then 5
 else if closedR l i = false then 6
 else 0
end Go.Proofs.YtchkaaeoffmjnaaGreatDoor
namespace Go.Proofs.YtchkaaeoffmjnaaGreatDoor
set_option linter.unusedVariables false
set_option linter.unusedSimpArgs false
structure Rt (e : Ev) : Prop where
 k0 : 1 ≤ e.kind
 k1 : e.kind ≤ 13
 g : e.kind ≠ 13 → 0 ≤ e.g ∧ e.g ≤ 511
 c0 : -1 ≤ e.chan
 cc : e.kind = 2 ∨ e.kind = 3 ∨ e.kind = 4 ∨ e.kind = 5 ∨ e.kind = 7 → 0 ≤ e.chan
 s3 : e.kind = 3 → e.send = true
 s4 : e.kind = 4 → e.send = false
 m4 : e.kind = 4 → e.ok = false → e.mate = -1
 v2 : e.kind = 2 → 0 ≤ e.value
set_option maxHeartbeats 4000000 in
theorem Rt.of {e : Ev} (h : ref12 e = 0) : Rt e := by
 obtain ⟨kind, g, chan, case_, value, mate, send, ok⟩ := e
 unfold ref12 at h
 by_cases hh : kind < 1 ∨ 13 < kind
 ·rw [if_pos hh] at h
  simp at h
 ·rw [if_neg hh] at h
  have hk : kind = 1 ∨ kind = 2 ∨ kind = 3 ∨ kind = 4 ∨ kind = 5 ∨ kind = 6 ∨ kind = 7 ∨ kind = 8 ∨ kind = 9 ∨ kind = 10 ∨ kind = 11 ∨ kind = 12 ∨ kind = 13 := by omega
  clear hh
  by_cases h2 : (okF ⟨kind, g, chan, case_, value, mate, send, ok⟩ && (if kind = 13 then g == -1 else inn 0 511 g)) = true
  ·clear h
   rcases hk with rfl | rfl | rfl | rfl | rfl | rfl | rfl | rfl | rfl | rfl | rfl | rfl | rfl <;> cases send <;> cases ok <;> simp [okF, inn] at h2 <;> constructor <;> simp <;> omega
  ·rw [if_neg h2] at h
   simp at h
structure InvG (l : List Ev) (i : Nat) (r : RdrM) : Prop where
 over : ∀ g, r.over = (goR l g i).over
 there : ∀ g, (goR l g i).there = r.crew.length
 crew : r.over = false → ∀ g : Nat, g < r.crew.length → r.crew[g]? = some ((goR l g i).waits, (goR l g i).exited)
 new : ∀ g : Nat, r.crew.length ≤ g → (goR l g i).waits = false ∧ (goR l g i).exited = false
 makes : r.chans.length = makesR l i
 ins : ∀ c : Nat, c < r.chans.length → r.chans[c]? = some ⟨(insR l c i).size, (insR l c i).buf, (insR l c i).closed⟩
 insNew : ∀ c : Nat, r.chans.length ≤ c → (insR l c i).buf = [] ∧ (insR l c i).closed = false
 closer : ∀ e, backR l e i = (r.closer.kind == 5 && e.mate == r.closer.g && e.chan == r.closer.chan)
theorem InvG.start (l : List Ev) : InvG l 0 (stG l 0) := by
 constructor
 ·intro g; rfl
 ·intro g; rfl
 ·intro _ g hg
  have : g = 0 := by simp [stG] at hg; omega
  subst this
  rfl
 ·intro g hg; exact ⟨rfl, rfl⟩
 ·rfl
 ·intro c hc; simp [stG] at hc
 ·intro c hc; exact ⟨rfl, rfl⟩
 ·intro e; rfl
section
variable {l : List Ev} {i : Nat} {r : RdrM}
theorem crewed_keeps (r : RdrM) (e : Ev) : (crewedF r e).2.chans = r.chans ∧ (crewedF r e).2.closer = r.closer := by
 unfold crewedF
 split
 ·exact ⟨rfl, rfl⟩
 split
 ·exact ⟨rfl, rfl⟩
 split
 ·exact ⟨rfl, rfl⟩
 split
 ·exact ⟨rfl, rfl⟩
 split
 ·exact ⟨rfl, rfl⟩
 split
 ·split <;> exact ⟨rfl, rfl⟩
 ·exact ⟨rfl, rfl⟩
theorem crew_same (h : InvG l i r) (hr : Rt (l.getD i evz)) : (crewedF r (l.getD i evz)).1 = crewR l i := by
 unfold crewR crewedF
 obtain ⟨e, he⟩ : ∃ e, l.getD i evz = e := ⟨_, rfl⟩
 rw [he] at hr ⊢
 dsimp only
 rw [h.over e.g]
 split
 ·rfl
 split
 ·rfl
 ·rename_i h1 h13
  have hg := hr.g h13
  obtain ⟨g, hgg⟩ : ∃ g : Nat, e.g = g := ⟨e.g.toNat, by omega⟩
  have ht := h.there (g : Int)
  rw [hgg, ht, Int.toNat_natCast]
  by_cases hlt : g < r.crew.length
  ·have hc := h.crew (by rw [h.over e.g]; simpa using h1) g hlt
   rw [hc]
   have d : decide ((g : Int) < (r.crew.length : Int)) = true := by simp; exact hlt
   rw [d]
   dsimp only
   cases (goR l g i).exited
   ·cases (goR l g i).waits <;> by_cases h12 : e.kind = 12 <;> by_cases h7 : e.kind = 7 <;> by_cases h1 : e.kind = 1 <;> by_cases hm : e.mate = r.crew.length <;> simp [h12, h7, h1, hm] <;> omega
   ·simp
  ·rw [List.getElem?_eq_none (by omega)]
   have d : decide ((g : Int) < (r.crew.length : Int)) = false := by simp; omega
   rw [d]
   rfl
theorem made_same (h : InvG l i r) (hr : Rt (l.getD i evz)) : (madeF (crewedF r (l.getD i evz)).2 (l.getD i evz)).1 = madeR l i := by
 have hk := (crewed_keeps r (l.getD i evz)).1
 unfold madeF madeR chanF
 rw [hk]
 obtain ⟨e, he⟩ : ∃ e, l.getD i evz = e := ⟨_, rfl⟩
 rw [he] at hr ⊢
 rw [h.makes]
 have hm := h.makes
 split
 ·by_cases hc : e.chan = (makesR l i : Int)
  ·rw [if_neg (by simpa using hc)]
   simp [hc]
  ·rw [if_pos hc]
   simp [hc]
 ·dsimp only
  have := hr.c0
  by_cases hc : e.chan < 0
  ·have : e.chan = -1 := by omega
   rw [this]
   simp
   omega
  ·rw [if_neg hc]
   have d1 : (e.chan == -1) = false := by rw [beq_eq_false_iff_ne]; omega
   rw [d1, Bool.false_or]
   by_cases hlt : e.chan < (makesR l i : Int)
   ·rw [List.getElem?_eq_getElem (by omega), decide_eq_true hlt]
    rfl
   ·rw [List.getElem?_eq_none (by omega), decide_eq_false hlt]
    rfl
end
end Go.Proofs.YtchkaaeoffmjnaaGreatDoor
namespace Go.Proofs.YtchkaaeoffmjnaaGreatDoor
set_option linter.unusedVariables false
set_option linter.unusedSimpArgs false
section
variable {l : List Ev} {i : Nat} {r r' : RdrM}
theorem prev_at (hi : i ≤ l.length) : prevF l i = if i = 0 then none else some (l.getD (i - 1) evz) := by
 unfold prevF
 split
 ·rfl
 ·rw [List.getD_eq_getElem?_getD, List.getElem?_eq_getElem (by omega)]
  rfl
theorem want_same (s e : Ev) : decide (e = wantF s e) = (e.kind == 7 && e.g == s.mate && e.mate == s.g && e.chan == s.chan && e.send != s.send && e.ok && (!s.send || e.value == s.value)) := by
 obtain ⟨kind, g, chan, case_, value, mate, send, ok⟩ := e
 obtain ⟨skind, sg, schan, scase, svalue, smate, ssend, sok⟩ := s
 rw [Bool.eq_iff_iff]
 unfold wantF
 cases ssend <;> cases send <;> cases ok <;> simp [Ev.mk.injEq] <;> omega
theorem served_same (h : InvG l i r) (hi : i < l.length) (hc : r'.closer = r.closer) : (servedF r' (prevF l i) (l.getD i evz)).1 = servedR l i := by
 unfold servedF servedR
 rw [prev_at (Nat.le_of_lt hi), hc]
 obtain ⟨e, he⟩ : ∃ e, l.getD i evz = e := ⟨_, rfl⟩
 rw [he]
 dsimp only
 by_cases h0 : 0 < i ∧ servesF (l.getD (i - 1) evz) = true
 ·rw [if_pos h0, if_neg (by omega)]
  simp only [Option.filter, h0.2, if_true]
  exact want_same _ _
 ·rw [if_neg h0]
  have hn : (if i = 0 then none else some (l.getD (i - 1) evz)).filter servesF = none := by
   by_cases hz : i = 0
   ·rw [if_pos hz]; rfl
   ·rw [if_neg hz]
    have : servesF (l.getD (i - 1) evz) = false := by
     cases hs : servesF (l.getD (i - 1) evz)
     ·rfl
     ·exact absurd ⟨by omega, hs⟩ h0
    simp only [Option.filter, this]
    rfl
  rw [hn]
  dsimp only
  by_cases h7 : e.kind = 7
  ·rw [if_pos h7, if_neg (by simpa using h7)]
   have hb := h.closer e
   cases hs : e.send <;> cases ho : e.ok <;> simp [hb]
  ·rw [if_neg h7, if_pos h7]
theorem next_at (hi : i < l.length) : nextF l i = if i + 1 = l.length then none else some (l.getD (i + 1) evz).value := by
 unfold nextF
 split
 ·rw [List.getElem?_eq_none (by omega)]
  rfl
 ·rw [List.getD_eq_getElem?_getD, List.getElem?_eq_getElem (by omega)]
  rfl
theorem take_same (hi : i < l.length) (s : InsM) (hk : ((l.getD i evz).kind = 3 ∧ (l.getD i evz).send = true) ∨ ((l.getD i evz).kind = 4 ∧ (l.getD i evz).send = false ∧ (l.getD i evz).ok = true)) :
  insStep l (l.getD i evz).chan i s = ⟨(takeF ⟨s.size, s.buf, s.closed⟩ (nextF l i) (l.getD i evz)).2.size, (takeF ⟨s.size, s.buf, s.closed⟩ (nextF l i) (l.getD i evz)).2.buf, (takeF ⟨s.size, s.buf, s.closed⟩ (nextF l i) (l.getD i evz)).2.closed, (takeF ⟨s.size, s.buf, s.closed⟩ (nextF l i) (l.getD i evz)).1⟩ := by
 unfold insStep takeF
 rw [next_at hi]
 obtain ⟨e, he⟩ : ∃ e, l.getD i evz = e := ⟨_, rfl⟩
 rw [he] at hk ⊢
 obtain ⟨ev, hev⟩ : ∃ ev, l.getD (i + 1) evz = ev := ⟨_, rfl⟩
 rw [hev]
 dsimp only
 rw [if_neg (by simp)]
 have f0 : ¬ (false = true) := by simp
 rcases hk with ⟨h3, hs⟩ | ⟨h4, hs, ho⟩
 ·have a1 : ¬ e.kind = 2 := by omega
  have a2 : ¬ e.kind = 5 := by omega
  have a3 : ¬ (e.kind ≠ 3 ∧ (e.kind ≠ 4 ∨ e.ok = false)) := fun hh => hh.1 h3
  have a4 : ¬ e.kind = 4 := by omega
  rw [if_neg a1, if_neg a2, if_neg a3, if_pos h3, hs]
  simp only [if_true]
  obtain ⟨v, L, hL⟩ : ∃ v L, s.buf ++ [e.value] = v :: L := by
   cases s.buf with
   | nil => exact ⟨_, _, rfl⟩
   | cons a b => exact ⟨_, _, rfl⟩
  rw [hL]
  by_cases hm : 0 ≤ e.mate
  ·have a5 : e.kind = 4 ∨ 0 ≤ e.mate := .inr hm
   rw [if_pos a5, decide_eq_true hm]
  ·have a5 : ¬ (e.kind = 4 ∨ 0 ≤ e.mate) := by omega
   rw [if_neg a5, decide_eq_false hm]
   simp
 ·have a1 : ¬ e.kind = 2 := by omega
  have a2 : ¬ e.kind = 5 := by omega
  have a3 : ¬ (e.kind ≠ 3 ∧ (e.kind ≠ 4 ∨ e.ok = false)) := fun hh => hh.2.elim (fun h => h h4) (fun h => by rw [ho] at h; cases h)
  have a4 : ¬ e.kind = 3 := by omega
  have a5 : e.kind = 4 ∨ 0 ≤ e.mate := .inl h4
  rw [if_neg a1, if_neg a2, if_neg a3, if_neg a4, if_pos a5, hs]
  simp only [if_neg f0]
  by_cases hm : 0 ≤ e.mate
  ·rw [decide_eq_true hm]
   by_cases hl : i + 1 = l.length
   ·have a6 : ¬ (0 ≤ e.mate ∧ decide (i + 1 = l.length) = false) := fun hh => by simp [hl] at hh
    rw [if_neg a6, if_pos hl, if_pos hm, decide_eq_true hl]
    cases s.buf <;> simp
   ·have a6 : 0 ≤ e.mate ∧ decide (i + 1 = l.length) = false := ⟨hm, by simp [hl]⟩
    rw [if_pos a6, if_neg hl, if_pos hm]
    cases s.buf <;> simp
  ·have a6 : ¬ (0 ≤ e.mate ∧ decide (i + 1 = l.length) = false) := fun hh => hm hh.1
   rw [if_neg a6, if_neg hm, decide_eq_false hm]
   cases s.buf <;> simp
theorem made_keeps (r : RdrM) (e : Ev) : (madeF r e).2.closer = r.closer ∧ (e.kind ≠ 2 → (madeF r e).2.chans = r.chans) := by
 unfold madeF
 split
 ·rename_i h2
  split
  ·exact ⟨rfl, fun h => absurd h2 h⟩
  ·exact ⟨rfl, fun h => absurd h2 h⟩
 ·exact ⟨rfl, fun _ => rfl⟩
theorem served_keeps (r : RdrM) (p : Option Ev) (e : Ev) : (servedF r p e).2.chans = r.chans := by
 unfold servedF
 split
 ·rfl
 ·split <;> rfl
theorem chan_at (h : InvG l i r) (hch : r'.chans = r.chans) {c : Int} (h0 : 0 ≤ c) (hlt : c < makesR l i) : chanF r' c = some ⟨(insR l c i).size, (insR l c i).buf, (insR l c i).closed⟩ := by
 obtain ⟨n, rfl⟩ : ∃ n : Nat, c = n := ⟨c.toNat, by omega⟩
 unfold chanF
 rw [if_neg (by omega), hch, Int.toNat_natCast]
 exact h.ins n (by have := h.makes; omega)
theorem ordered_same (h : InvG l i r) (hi : i < l.length) (hr : Rt (l.getD i evz)) (hch : (l.getD i evz).kind ≠ 2 → r'.chans = r.chans) (hm : madeR l i = true) : (orderedF r' (nextF l i) (l.getD i evz)).1 = orderedR l i := by
 unfold orderedR orderedF
 have hts := take_same hi (insR l (l.getD i evz).chan i)
 unfold madeR at hm
 have hin : insR l (l.getD i evz).chan (i + 1) = insStep l (l.getD i evz).chan i (insR l (l.getD i evz).chan i) := rfl
 dsimp only
 rw [hin]
 obtain ⟨e, he⟩ : ∃ e, l.getD i evz = e := ⟨_, rfl⟩
 rw [he] at hr hch hm hts ⊢
 by_cases hk : e.kind ≠ 3 ∧ (e.kind ≠ 4 ∨ e.ok = false)
 ·rw [if_pos hk]
  split
  ·rfl
  ·rw [if_pos hk]
 ·have h2 : e.kind ≠ 2 := by omega
  rw [if_neg h2] at hm
  have h34 : e.kind = 3 ∨ e.kind = 4 := by omega
  have hc0 := hr.cc (by omega)
  rw [if_neg hk, chan_at h (hch h2) hc0 (by simpa using hm)]
  dsimp only
  rw [if_neg hk, hts ?_]
  rcases h34 with h3 | h4
  ·exact .inl ⟨h3, hr.s3 h3⟩
  ·refine .inr ⟨h4, hr.s4 h4, ?_⟩
   cases ho : e.ok
   ·exact absurd ⟨by omega, .inr ho⟩ hk
   ·rfl
theorem ordered_keeps (r : RdrM) (n : Option Int) (e : Ev) : (orderedF r n e).2.closer = r.closer ∧ (orderedF r n e).2.crew = r.crew ∧ (orderedF r n e).2.over = r.over ∧ (e.kind ≠ 3 → (e.kind ≠ 4 ∨ e.ok = false) → (orderedF r n e).2 = r) := by
 unfold orderedF
 split
 ·exact ⟨rfl, rfl, rfl, fun _ _ => rfl⟩
 ·split
  ·exact ⟨rfl, rfl, rfl, fun _ _ => rfl⟩
  ·rename_i hk
   exact ⟨rfl, rfl, rfl, fun a b => absurd ⟨a, b⟩ hk⟩
/-- A channel behind rule 5: as it was but for what is in it. -/
theorem ordered_chan (h : InvG l i r) (hch : r'.chans = r.chans) {e : Ev} {n : Option Int} (h0 : 0 ≤ e.chan) (hlt : e.chan < makesR l i) :
  ∃ L, chanF (orderedF r' n e).2 e.chan = some ⟨(insR l e.chan i).size, L, (insR l e.chan i).closed⟩ ∧ (e.kind = 4 ∧ e.ok = false → L = (insR l e.chan i).buf) := by
 have hc := chan_at h hch h0 hlt
 unfold orderedF
 rw [hc]
 dsimp only
 split
 ·exact ⟨_, hc, fun _ => rfl⟩
 ·rename_i hk
  refine ⟨(takeF ⟨(insR l e.chan i).size, (insR l e.chan i).buf, (insR l e.chan i).closed⟩ n e).2.buf, ?_, fun hh => absurd ⟨by omega, .inr hh.2⟩ hk⟩
  unfold chanF
  rw [if_neg (by omega)]
  dsimp only
  rw [hch, List.getElem?_set_self (by have := h.makes; omega)]
  unfold takeF
  dsimp only
  split <;> rfl
theorem closed_same (h : InvG l i r) (hr : Rt (l.getD i evz)) (hch : (l.getD i evz).kind ≠ 2 → r'.chans = r.chans) (hm : madeR l i = true) : (closedF (orderedF r' (nextF l i) (l.getD i evz)).2 (l.getD i evz)).1 = closedR l i := by
 unfold closedR
 unfold madeR at hm
 obtain ⟨n, hn⟩ : ∃ n, nextF l i = n := ⟨_, rfl⟩
 rw [hn]
 obtain ⟨e, he⟩ : ∃ e, l.getD i evz = e := ⟨_, rfl⟩
 rw [he] at hr hch hm ⊢
 dsimp only
 by_cases hk : e.kind < 3 ∨ 5 < e.kind
 ·rw [if_pos hk]
  unfold closedF
  split
  ·rfl
  ·have a1 : ¬ e.kind = 5 := by omega
   have a2 : ¬ (e.kind = 3 ∨ e.kind = 4 ∧ 0 ≤ e.mate) := by omega
   have a3 : ¬ (e.kind = 4 ∧ e.ok = false) := fun hh => by omega
   rw [if_neg a1, if_neg a2, if_neg a3]
 ·have h2 : e.kind ≠ 2 := by omega
  rw [if_neg h2] at hm
  rw [if_neg hk]
  obtain ⟨L, hL, hb⟩ := ordered_chan (n := n) h (hch h2) (hr.cc (by omega)) (by simpa using hm)
  unfold closedF
  rw [hL]
  dsimp only
  by_cases h5 : e.kind = 5
  ·have a3 : ¬ (e.kind = 4 ∧ e.ok = false) := fun hh => by omega
   have a4 : ¬ (e.kind = 4 ∧ e.mate < 0) := by omega
   rw [if_pos h5, if_neg a3, if_neg a4]
  ·rw [if_neg h5]
   by_cases h3 : e.kind = 3
   ·have a3 : ¬ (e.kind = 4 ∧ e.ok = false) := fun hh => by omega
    have a4 : ¬ (e.kind = 4 ∧ e.mate < 0) := by omega
    rw [if_pos (.inl h3), if_neg a3, if_neg a4]
   ·have h4 : e.kind = 4 := by omega
    by_cases ho : e.ok = false
    ·have hmm := hr.m4 h4 ho
     have a2 : ¬ (e.kind = 3 ∨ e.kind = 4 ∧ 0 ≤ e.mate) := by omega
     rw [if_neg a2, if_pos ⟨h4, ho⟩, if_pos ⟨h4, ho⟩, hb ⟨h4, ho⟩]
    ·have a3 : ¬ (e.kind = 4 ∧ e.ok = false) := fun hh => ho hh.2
     rw [if_neg a3, if_neg a3]
     by_cases hmm : 0 ≤ e.mate
     ·have a4 : ¬ (e.kind = 4 ∧ e.mate < 0) := by omega
      rw [if_pos (.inr ⟨h4, hmm⟩), if_neg a4]
     ·have a2 : ¬ (e.kind = 3 ∨ e.kind = 4 ∧ 0 ≤ e.mate) := by omega
      have a4 : e.kind = 4 ∧ e.mate < 0 := by omega
      rw [if_neg a2, if_pos a4]
end
end Go.Proofs.YtchkaaeoffmjnaaGreatDoor
namespace Go.Proofs.YtchkaaeoffmjnaaGreatDoor
set_option linter.unusedVariables false
set_option linter.unusedSimpArgs false
section
variable {l : List Ev} {i : Nat} {r r' : RdrM}
structure CrewInv (l : List Ev) (i : Nat) (r : RdrM) : Prop where
 over : ∀ g, r.over = (goR l g i).over
 there : ∀ g, (goR l g i).there = r.crew.length
 crew : r.over = false → ∀ g : Nat, g < r.crew.length → r.crew[g]? = some ((goR l g i).waits, (goR l g i).exited)
 new : ∀ g : Nat, r.crew.length ≤ g → (goR l g i).waits = false ∧ (goR l g i).exited = false
theorem crew_step (h : InvG l i r) (hr : Rt (l.getD i evz)) (hp : (crewedF r (l.getD i evz)).1 = true) : CrewInv l (i + 1) (crewedF r (l.getD i evz)).2 := by
  have hg : ∀ g, goR l g (i + 1) = ⟨if (l.getD i evz).kind = 1 then (goR l g i).there + 1 else (goR l g i).there,
     if (l.getD i evz).g ≠ g ∨ (l.getD i evz).kind = 13 then (goR l g i).waits else if (l.getD i evz).kind = 7 then false else if (l.getD i evz).kind = 6 then true else (goR l g i).waits,
     if (l.getD i evz).g ≠ g ∨ (l.getD i evz).kind = 13 then (goR l g i).exited else ((goR l g i).exited || (l.getD i evz).kind == 11),
     (goR l g i).over || (l.getD i evz).kind == 12⟩ := fun g => rfl
  obtain ⟨e, he⟩ : ∃ e, l.getD i evz = e := ⟨_, rfl⟩
  rw [he] at hr hp ⊢
  simp only [he] at hg
  unfold crewedF at hp ⊢
  by_cases ho : r.over = true
  · rw [if_pos ho] at hp
    cases hp
  rw [if_neg ho] at hp ⊢
  have ho' : r.over = false := by simpa using ho
  by_cases h13 : e.kind = 13
  · rw [if_pos h13]
    constructor
    · intro g
      rw [hg g]
      dsimp only
      rw [h13, h.over g]
      simp
    · intro g
      rw [hg g]
      dsimp only
      rw [if_neg (by omega)]
      exact h.there g
    · intro _ g hgl
      rw [hg g]
      dsimp only
      rw [if_pos (.inr h13), if_pos (.inr h13)]
      exact h.crew ho' g hgl
    · intro g hgl
      rw [hg g]
      dsimp only
      rw [if_pos (.inr h13), if_pos (.inr h13)]
      exact h.new g hgl
  · rw [if_neg h13] at hp ⊢
    have heg := hr.g h13
    obtain ⟨n, hn⟩ : ∃ n : Nat, e.g = n := ⟨e.g.toNat, by omega⟩
    rw [hn, Int.toNat_natCast] at hp ⊢
    by_cases hlt : n < r.crew.length
    · rw [h.crew ho' n hlt] at hp ⊢
      dsimp only at hp ⊢
      by_cases hx : (goR l n i).exited = true
      · rw [if_pos hx] at hp
        cases hp
      rw [if_neg hx] at hp ⊢
      have hx' : (goR l n i).exited = false := by simpa using hx
      by_cases hw : e.kind ≠ 12 ∧ (goR l n i).waits ≠ (e.kind == 7)
      · rw [if_pos hw] at hp
        cases hp
      rw [if_neg hw] at hp ⊢
      have hno : ∀ g : Nat, g ≠ n → (goR l g (i + 1)).waits = (goR l g i).waits ∧ (goR l g (i + 1)).exited = (goR l g i).exited := fun g hgn => by
        rw [hg g]
        have : e.g ≠ (g : Int) ∨ e.kind = 13 := .inl (by omega)
        dsimp only
        rw [if_pos this, if_pos this]
        exact ⟨rfl, rfl⟩
      have hown : e.kind ≠ 12 → (goR l n (i + 1)).waits = (e.kind == 6) ∧ (goR l n (i + 1)).exited = (e.kind == 11) := fun h12 => by
        rw [hg n]
        have : ¬ (e.g ≠ (n : Int) ∨ e.kind = 13) := by omega
        dsimp only
        rw [if_neg this, if_neg this, hx', Bool.false_or]
        refine ⟨?_, rfl⟩
        have hwe : (goR l n i).waits = (e.kind == 7) := by
          rcases Decidable.em ((goR l n i).waits = (e.kind == 7)) with h1 | h1
          · exact h1
          · exact absurd ⟨h12, h1⟩ hw
        by_cases h7 : e.kind = 7
        · rw [if_pos h7, h7]
          rfl
        · rw [if_neg h7]
          by_cases h6 : e.kind = 6
          · rw [if_pos h6, h6]
            rfl
          · rw [if_neg h6, hwe]
            rw [beq_eq_false_iff_ne.2 h7, beq_eq_false_iff_ne.2 h6]
      have hover : ∀ g, (e.kind == 12) = (goR l g (i + 1)).over := fun g => by
        rw [hg g]
        dsimp only
        rw [← h.over g, ho', Bool.false_or]
      by_cases h1 : e.kind = 1
      · rw [if_pos h1] at hp ⊢
        by_cases hm : e.mate ≠ r.crew.length
        · rw [if_pos hm] at hp
          cases hp
        rw [if_neg hm]
        constructor
        · exact hover
        · intro g
          rw [hg g]
          dsimp only
          rw [if_pos h1, h.there g]
          simp
        · intro _ g hgl
          dsimp only at hgl ⊢
          simp only [List.length_append, List.length_set, List.length_singleton] at hgl
          by_cases hgn : g = n
          · subst hgn
            rw [List.getElem?_append_left (by simpa using hlt), List.getElem?_set_self hlt]
            obtain ⟨w1, w2⟩ := hown (by omega)
            rw [w1, w2]
          · obtain ⟨w1, w2⟩ := hno g hgn
            rw [w1, w2]
            by_cases hgl' : g < r.crew.length
            · rw [List.getElem?_append_left (by simpa using hgl'), List.getElem?_set_ne (by omega)]
              exact h.crew ho' g hgl'
            · have : g = r.crew.length := by omega
              subst this
              rw [List.getElem?_append_right (by simp)]
              obtain ⟨v1, v2⟩ := h.new r.crew.length (Nat.le_refl _)
              rw [v1, v2]
              simp
        · intro g hgl
          dsimp only at hgl
          simp only [List.length_append, List.length_set, List.length_singleton] at hgl
          obtain ⟨w1, w2⟩ := hno g (by omega)
          rw [w1, w2]
          exact h.new g (by omega)
      · rw [if_neg h1] at hp ⊢
        constructor
        · exact hover
        · intro g
          rw [hg g]
          dsimp only
          rw [if_neg h1, h.there g]
          simp
        · intro hov g hgl
          dsimp only at hov hgl ⊢
          simp only [List.length_set] at hgl
          have h12 : e.kind ≠ 12 := by
            intro h12
            rw [h12] at hov
            cases hov
          by_cases hgn : g = n
          · subst hgn
            rw [List.getElem?_set_self hlt]
            obtain ⟨w1, w2⟩ := hown h12
            rw [w1, w2]
          · obtain ⟨w1, w2⟩ := hno g hgn
            rw [w1, w2, List.getElem?_set_ne (by omega)]
            exact h.crew ho' g hgl
        · intro g hgl
          dsimp only at hgl
          simp only [List.length_set] at hgl
          obtain ⟨w1, w2⟩ := hno g (by omega)
          rw [w1, w2]
          exact h.new g hgl
    · rw [List.getElem?_eq_none (by omega)] at hp
      cases hp
end
end Go.Proofs.YtchkaaeoffmjnaaGreatDoor
namespace Go.Proofs.YtchkaaeoffmjnaaGreatDoor
set_option linter.unusedVariables false
set_option linter.unusedSimpArgs false
section
variable {l : List Ev} {i : Nat} {r r1 : RdrM}
structure ChanInv (l : List Ev) (i : Nat) (L : List ChnM) : Prop where
 makes : L.length = makesR l i
 ins : ∀ c : Nat, c < L.length → L[c]? = some ⟨(insR l c i).size, (insR l c i).buf, (insR l c i).closed⟩
 insNew : ∀ c : Nat, L.length ≤ c → (insR l c i).buf = [] ∧ (insR l c i).closed = false
theorem closed_keeps (r : RdrM) (e : Ev) : (closedF r e).2.closer = r.closer ∧ (closedF r e).2.crew = r.crew ∧ (closedF r e).2.over = r.over ∧ (e.kind ≠ 5 → (closedF r e).2 = r) := by
 unfold closedF
 split
 ·exact ⟨rfl, rfl, rfl, fun _ => rfl⟩
 ·split
  ·rename_i h5
   exact ⟨rfl, rfl, rfl, fun h => absurd h5 h⟩
  ·split
   ·exact ⟨rfl, rfl, rfl, fun _ => rfl⟩
   ·split <;> exact ⟨rfl, rfl, rfl, fun _ => rfl⟩
theorem ins_other {c : Int} (hc : (l.getD i evz).chan ≠ c) : insR l c (i + 1) = insR l c i := by
 show insStep l c i (insR l c i) = _
 unfold insStep
 dsimp only
 rw [if_pos hc]
theorem makes_keep (h2 : (l.getD i evz).kind ≠ 2) : makesR l (i + 1) = makesR l i := by
 show (if (l.getD i evz).kind = 2 then makesR l i + 1 else makesR l i) = _
 rw [if_neg h2]
theorem chan_step (h : InvG l i r) (hi : i < l.length) (hr : Rt (l.getD i evz)) (hch : r1.chans = r.chans) {p : Option Ev} (hm : madeR l i = true) :
  ChanInv l (i + 1) (closedF (orderedF (servedF (madeF r1 (l.getD i evz)).2 p (l.getD i evz)).2 (nextF l i) (l.getD i evz)).2 (l.getD i evz)).2.chans := by
 have hmk := made_keeps r1 (l.getD i evz)
 have hsk := served_keeps (madeF r1 (l.getD i evz)).2 p (l.getD i evz)
 have hio := @ins_other l i
 have hts := take_same hi (insR l (l.getD i evz).chan i)
 have hst : insR l (l.getD i evz).chan (i + 1) = insStep l (l.getD i evz).chan i (insR l (l.getD i evz).chan i) := rfl
 have hmR := hm
 unfold madeR at hm
 by_cases h2 : (l.getD i evz).kind = 2
 ·have hmm : makesR l (i + 1) = makesR l i + 1 := by
   show (if (l.getD i evz).kind = 2 then makesR l i + 1 else makesR l i) = _
   rw [if_pos h2]
  rw [if_pos h2] at hm
  have hc : (l.getD i evz).chan = (makesR l i : Int) := by simpa using hm
  have e1 : (madeF r1 (l.getD i evz)).2.chans = r.chans ++ [⟨(l.getD i evz).value, [], false⟩] := by
   unfold madeF
   rw [if_pos h2, if_neg (by rw [hch, h.makes]; simpa using hc)]
   dsimp only
   rw [hch]
  obtain ⟨r2, hr2⟩ : ∃ r2, (servedF (madeF r1 (l.getD i evz)).2 p (l.getD i evz)).2 = r2 := ⟨_, rfl⟩
  rw [hr2] at hsk ⊢
  rw [(ordered_keeps r2 (nextF l i) (l.getD i evz)).2.2.2 (by omega) (.inl (by omega)), (closed_keeps r2 (l.getD i evz)).2.2.2 (by omega), hsk, e1]
  have hlen := h.makes
  constructor
  ·simp [hmm, hlen]
  ·intro c hcl
   simp only [List.length_append, List.length_singleton] at hcl
   by_cases hcc : c < r.chans.length
   ·rw [List.getElem?_append_left hcc, hio (by omega)]
    exact h.ins c hcc
   ·have : c = makesR l i := by omega
    subst this
    rw [List.getElem?_append_right (by omega), hlen, Nat.sub_self]
    rw [← hc, hst]
    obtain ⟨v1, v2⟩ := h.insNew (makesR l i) (by omega)
    rw [← hc] at v1 v2
    unfold insStep
    dsimp only
    have a2 : (l.getD i evz).kind ≠ 3 ∧ ((l.getD i evz).kind ≠ 4 ∨ (l.getD i evz).ok = false) := ⟨by omega, .inl (by omega)⟩
    have a3 : ¬ (l.getD i evz).kind = 5 := by omega
    rw [if_neg (fun hh => hh rfl), if_pos a2]
    dsimp only
    rw [if_pos h2, if_neg a3, v1, v2]
    rfl
  ·intro c hcl
   simp only [List.length_append, List.length_singleton] at hcl
   rw [hio (by omega)]
   exact h.insNew c (by omega)
 ·have hmm : makesR l (i + 1) = makesR l i := makes_keep h2
  rw [if_neg h2] at hm
  have hc : (l.getD i evz).chan < (makesR l i : Int) := by simpa using hm
  have hc1 := hr.c0
  obtain ⟨r2, hr2⟩ : ∃ r2, (servedF (madeF r1 (l.getD i evz)).2 p (l.getD i evz)).2 = r2 := ⟨_, rfl⟩
  rw [hr2] at hsk ⊢
  have e2 : r2.chans = r.chans := by rw [hsk, hmk.2 h2, hch]
  have hlen := h.makes
  by_cases h5 : (l.getD i evz).kind = 5
  ·have hc0 := hr.cc (.inr (.inr (.inr (.inl h5))))
   obtain ⟨n, hn⟩ : ∃ n : Nat, (l.getD i evz).chan = n := ⟨(l.getD i evz).chan.toNat, by omega⟩
   rw [(ordered_keeps r2 (nextF l i) (l.getD i evz)).2.2.2 (by omega) (.inl (by omega))]
   have e3 : (closedF r2 (l.getD i evz)).2.chans = r.chans.set n ⟨(insR l n i).size, (insR l n i).buf, true⟩ := by
    unfold closedF
    rw [chan_at h e2 hc0 hc]
    dsimp only
    rw [if_pos h5]
    dsimp only
    rw [e2, hn, Int.toNat_natCast]
   rw [e3]
   constructor
   ·rw [List.length_set, hmm, hlen]
   ·intro c hcl
    rw [List.length_set] at hcl
    by_cases hcn : c = n
    ·subst hcn
     rw [List.getElem?_set_self hcl, ← hn, hst]
     unfold insStep
     dsimp only
     have a2 : (l.getD i evz).kind ≠ 3 ∧ ((l.getD i evz).kind ≠ 4 ∨ (l.getD i evz).ok = false) := ⟨by omega, .inl (by omega)⟩
     rw [if_neg (fun hh => hh rfl), if_pos a2]
     dsimp only
     rw [if_neg h2, if_pos h5]
    ·rw [List.getElem?_set_ne (by omega), hio (by omega)]
     exact h.ins c hcl
   ·intro c hcl
    rw [List.length_set] at hcl
    rw [hio (by omega)]
    exact h.insNew c hcl
  ·rw [(closed_keeps _ (l.getD i evz)).2.2.2 h5]
   by_cases hk : (l.getD i evz).kind ≠ 3 ∧ ((l.getD i evz).kind ≠ 4 ∨ (l.getD i evz).ok = false)
   ·rw [(ordered_keeps r2 (nextF l i) (l.getD i evz)).2.2.2 hk.1 hk.2, e2]
    have hsame : ∀ c : Int, (insR l c (i + 1)).size = (insR l c i).size ∧ (insR l c (i + 1)).buf = (insR l c i).buf ∧ (insR l c (i + 1)).closed = (insR l c i).closed := fun c => by
     by_cases hcc : (l.getD i evz).chan = c
     ·subst hcc
      rw [hst]
      unfold insStep
      dsimp only
      rw [if_neg (fun hh => hh rfl), if_pos hk]
      dsimp only
      rw [if_neg h2, if_neg h5]
      exact ⟨rfl, rfl, rfl⟩
     ·rw [hio hcc]
      exact ⟨rfl, rfl, rfl⟩
    constructor
    ·rw [hmm, hlen]
    ·intro c hcl
     obtain ⟨a, b, d⟩ := hsame c
     rw [a, b, d]
     exact h.ins c hcl
    ·intro c hcl
     obtain ⟨a, b, d⟩ := hsame c
     rw [b, d]
     exact h.insNew c hcl
   ·have h34 : (l.getD i evz).kind = 3 ∨ (l.getD i evz).kind = 4 := by omega
    have hc0 := hr.cc (by omega)
    obtain ⟨n, hn⟩ : ∃ n : Nat, (l.getD i evz).chan = n := ⟨(l.getD i evz).chan.toNat, by omega⟩
    have hts := hts (by
     rcases h34 with h3 | h4
     ·exact .inl ⟨h3, hr.s3 h3⟩
     ·refine .inr ⟨h4, hr.s4 h4, ?_⟩
      cases ho : (l.getD i evz).ok
      ·exact absurd ⟨by omega, .inr ho⟩ hk
      ·rfl)
    have e3 : (orderedF r2 (nextF l i) (l.getD i evz)).2.chans = r.chans.set n (takeF ⟨(insR l (l.getD i evz).chan i).size, (insR l (l.getD i evz).chan i).buf, (insR l (l.getD i evz).chan i).closed⟩ (nextF l i) (l.getD i evz)).2 := by
     unfold orderedF
     rw [chan_at h e2 hc0 hc]
     dsimp only
     rw [if_neg hk]
     dsimp only
     rw [e2]
     congr 1
     omega
    rw [e3]
    constructor
    ·rw [List.length_set, hmm, hlen]
    ·intro c hcl
     rw [List.length_set] at hcl
     by_cases hcn : c = n
     ·subst hcn
      rw [List.getElem?_set_self hcl, ← hn, hst, hts]
     ·rw [List.getElem?_set_ne (by omega), hio (by omega)]
      exact h.ins c hcl
    ·intro c hcl
     rw [List.length_set] at hcl
     rw [hio (by omega)]
     exact h.insNew c hcl
end
end Go.Proofs.YtchkaaeoffmjnaaGreatDoor
namespace Go.Proofs.YtchkaaeoffmjnaaGreatDoor
set_option linter.unusedVariables false
set_option linter.unusedSimpArgs false
section
variable {l : List Ev} {i : Nat} {r r1 : RdrM}
theorem closer_step (h : InvG l i r) (hi : i < l.length) (hc : r1.closer = r.closer) (hs : servedR l i = true) (e : Ev) :
  backR l e (i + 1) = ((servedF r1 (prevF l i) (l.getD i evz)).2.closer.kind == 5 && e.mate == (servedF r1 (prevF l i) (l.getD i evz)).2.closer.g && e.chan == (servedF r1 (prevF l i) (l.getD i evz)).2.closer.chan) := by
 have hb : backR l e (i + 1) = (if (l.getD i evz).kind = 5 then (l.getD i evz).g == e.mate && (l.getD i evz).chan == e.chan else if (l.getD i evz).kind ≠ 7 ∨ (0 < i ∧ servesF (l.getD (i - 1) evz) = true) then false else backR l e i) := rfl
 have hcl := h.closer e
 unfold servedR at hs
 unfold servedF
 rw [prev_at (Nat.le_of_lt hi)]
 obtain ⟨x, hx⟩ : ∃ x, l.getD i evz = x := ⟨_, rfl⟩
 rw [hx] at hb hs ⊢
 dsimp only at hs
 rw [hb]
 by_cases h0 : 0 < i ∧ servesF (l.getD (i - 1) evz) = true
 ·rw [if_pos h0] at hs
  have h7 : x.kind = 7 := by
   simp only [Bool.and_eq_true, beq_iff_eq] at hs
   exact hs.1.1.1.1.1.1
  rw [if_neg (by omega), if_pos (.inr h0), if_neg (show ¬ i = 0 by omega)]
  simp only [Option.filter, h0.2, if_true]
  rw [hc, ← hcl]
  obtain ⟨j, rfl⟩ : ∃ j, i = j + 1 := ⟨i - 1, by omega⟩
  have hj : backR l e (j + 1) = (if (l.getD j evz).kind = 5 then (l.getD j evz).g == e.mate && (l.getD j evz).chan == e.chan else if (l.getD j evz).kind ≠ 7 ∨ (0 < j ∧ servesF (l.getD (j - 1) evz) = true) then false else backR l e j) := rfl
  rw [hj]
  have hk := h0.2
  rw [Nat.add_sub_cancel] at hk
  unfold servesF at hk
  simp only [Bool.and_eq_true, Bool.or_eq_true, beq_iff_eq, decide_eq_true_eq] at hk
  rw [if_neg (by omega), if_pos (.inl (by omega))]
 ·rw [if_neg h0] at hs
  have hn : (if i = 0 then none else some (l.getD (i - 1) evz)).filter servesF = none := by
   by_cases hz : i = 0
   ·rw [if_pos hz]; rfl
   ·rw [if_neg hz]
    have : servesF (l.getD (i - 1) evz) = false := by
     cases hs : servesF (l.getD (i - 1) evz)
     ·rfl
     ·exact absurd ⟨by omega, hs⟩ h0
    simp only [Option.filter, this]
    rfl
  rw [hn]
  dsimp only
  by_cases h7 : x.kind = 7
  ·have a1 : ¬ (x.kind ≠ 7 ∨ (0 < i ∧ servesF (l.getD (i - 1) evz) = true)) := fun hh => hh.elim (fun h => h h7) h0
   rw [if_neg (show ¬ x.kind = 5 by omega), if_neg a1, if_pos h7, hcl, hc]
  ·rw [if_neg h7]
   dsimp only
   by_cases h5 : x.kind = 5
   ·rw [if_pos h5, h5]
    rw [Bool.eq_iff_iff]
    simp only [Bool.and_eq_true, beq_iff_eq, true_and]
    exact ⟨fun hh => ⟨hh.1.symm, hh.2.symm⟩, fun hh => ⟨hh.1.symm, hh.2.symm⟩⟩
   ·rw [if_neg h5, if_pos (.inl h7), beq_eq_false_iff_ne.2 h5]
    simp
theorem made_keeps2 (r : RdrM) (e : Ev) : (madeF r e).2.crew = r.crew ∧ (madeF r e).2.over = r.over := by
 unfold madeF
 split
 ·split <;> exact ⟨rfl, rfl⟩
 ·exact ⟨rfl, rfl⟩
theorem served_keeps2 (r : RdrM) (p : Option Ev) (e : Ev) : (servedF r p e).2.crew = r.crew ∧ (servedF r p e).2.over = r.over := by
 unfold servedF
 split
 ·exact ⟨rfl, rfl⟩
 ·split <;> exact ⟨rfl, rfl⟩
theorem step_rules (h : InvG l i r) (hi : i < l.length) : (stepG r (prevF l i) (nextF l i) (l.getD i evz)).1 = brR l i := by
 unfold stepG brR
 rw [ent_ref]
 by_cases h1 : ref12 (l.getD i evz) = 0
 ·have hr := Rt.of h1
  have a0 : ¬ ref12 (l.getD i evz) ≠ 0 := fun hh => hh h1
  rw [if_neg a0, if_neg a0, crew_same h hr, made_same h hr]
  have ck := crewed_keeps r (l.getD i evz)
  have mk := made_keeps (crewedF r (l.getD i evz)).2 (l.getD i evz)
  have sk := served_keeps (madeF (crewedF r (l.getD i evz)).2 (l.getD i evz)).2 (prevF l i) (l.getD i evz)
  rw [served_same h hi (mk.1.trans ck.2)]
  by_cases h2 : crewR l i = false
  ·rw [if_pos h2, if_pos h2]
  ·rw [if_neg h2, if_neg h2]
   by_cases h3 : madeR l i = false
   ·rw [if_pos h3, if_pos h3]
   ·rw [if_neg h3, if_neg h3]
    have h3' : madeR l i = true := by simpa using h3
    rw [ordered_same h hi hr (fun hk => sk.trans ((mk.2 hk).trans ck.1)) h3', closed_same h hr (fun hk => sk.trans ((mk.2 hk).trans ck.1)) h3']
    by_cases h4 : servedR l i = false
    ·rw [if_pos h4, if_pos h4]
    ·rw [if_neg h4, if_neg h4]
     by_cases h5 : orderedR l i = false
     ·rw [if_pos h5, if_pos h5]
     ·rw [if_neg h5, if_neg h5]
      by_cases h6 : closedR l i = false
      ·rw [if_pos h6, if_pos h6]
      ·rw [if_neg h6, if_neg h6]
 ·rw [if_pos h1, if_pos h1]
theorem InvG.step (h : InvG l i r) (hi : i < l.length) (hb : brR l i = 0) : InvG l (i + 1) (stepG r (prevF l i) (nextF l i) (l.getD i evz)).2 := by
 have hs := step_rules h hi
 rw [hb] at hs
 unfold brR at hb
 have h1 : ref12 (l.getD i evz) = 0 := by
  rcases Decidable.em (ref12 (l.getD i evz) = 0) with h1 | h1
  ·exact h1
  ·rw [if_pos h1] at hb
   cases hb
 have a0 : ¬ ref12 (l.getD i evz) ≠ 0 := fun hh => hh h1
 rw [if_neg a0] at hb
 have hr := Rt.of h1
 have h2 : crewR l i = true := by
  cases hx : crewR l i
  ·rw [if_pos hx] at hb
   cases hb
  ·rfl
 rw [if_neg (by simp [h2])] at hb
 have h3 : madeR l i = true := by
  cases hx : madeR l i
  ·rw [if_pos hx] at hb
   cases hb
  ·rfl
 rw [if_neg (by simp [h3])] at hb
 have h4 : servedR l i = true := by
  cases hx : servedR l i
  ·rw [if_pos hx] at hb
   cases hb
  ·rfl
 have ck := crewed_keeps r (l.getD i evz)
 have mk := made_keeps (crewedF r (l.getD i evz)).2 (l.getD i evz)
 have mk2 := made_keeps2 (crewedF r (l.getD i evz)).2 (l.getD i evz)
 have sk2 := served_keeps2 (madeF (crewedF r (l.getD i evz)).2 (l.getD i evz)).2 (prevF l i) (l.getD i evz)
 have hC := crew_step h hr (by rw [crew_same h hr]; exact h2)
 have hD := chan_step (p := prevF l i) h hi hr ck.1 h3
 have hE := closer_step h hi (mk.1.trans ck.2) h4
 have hfin : (stepG r (prevF l i) (nextF l i) (l.getD i evz)).2 = (closedF (orderedF (servedF (madeF (crewedF r (l.getD i evz)).2 (l.getD i evz)).2 (prevF l i) (l.getD i evz)).2 (nextF l i) (l.getD i evz)).2 (l.getD i evz)).2 := by
  unfold stepG at hs ⊢
  split
  ·rename_i hx; rw [if_pos hx] at hs; cases hs
  rename_i hx; rw [if_neg hx] at hs
  split
  ·rename_i hx; rw [if_pos hx] at hs; cases hs
  rename_i hx; rw [if_neg hx] at hs
  split
  ·rename_i hx; rw [if_pos hx] at hs; cases hs
  rename_i hx; rw [if_neg hx] at hs
  split
  ·rename_i hx; rw [if_pos hx] at hs; cases hs
  rename_i hx; rw [if_neg hx] at hs
  split
  ·rename_i hx; rw [if_pos hx] at hs; cases hs
  rename_i hx; rw [if_neg hx] at hs
  split <;> rfl
 rw [hfin]
 obtain ⟨r3, hr3⟩ : ∃ r3, (servedF (madeF (crewedF r (l.getD i evz)).2 (l.getD i evz)).2 (prevF l i) (l.getD i evz)).2 = r3 := ⟨_, rfl⟩
 rw [hr3] at sk2 hD hE ⊢
 have ok := ordered_keeps r3 (nextF l i) (l.getD i evz)
 have cl := closed_keeps (orderedF r3 (nextF l i) (l.getD i evz)).2 (l.getD i evz)
 have ecrew := cl.2.1.trans (ok.2.1.trans (sk2.1.trans mk2.1))
 have eover := cl.2.2.1.trans (ok.2.2.1.trans (sk2.2.trans mk2.2))
 have ecl := cl.1.trans ok.1
 refine ⟨fun g => ?_, fun g => ?_, fun ho g hg => ?_, fun g hg => ?_, hD.makes, hD.ins, hD.insNew, fun e => ?_⟩
 ·rw [eover]; exact hC.over g
 ·rw [ecrew]; exact hC.there g
 ·rw [ecrew] at hg ⊢
  rw [eover] at ho
  exact hC.crew ho g hg
 ·rw [ecrew] at hg
  exact hC.new g hg
 ·rw [ecl]; exact hE e
end
end Go.Proofs.YtchkaaeoffmjnaaGreatDoor
namespace Go.Proofs.YtchkaaeoffmjnaaGreatDoor
set_option linter.unusedVariables false
set_option linter.unusedSimpArgs false
/-- The first place, from i on, at which a rule is broken, and which. -/
def scanB (br : Nat → Int) : Nat → Nat → Option (Int × Nat)
 | 0, _ => none
 | k + 1, i => if br i ≠ 0 then some (br i, i) else scanB br k (i + 1)
def endB (l : List Ev) (o : Option (Int × Nat)) : Int × Nat :=
 match o with
 | some r => r
 | none => if 0 < l.length ∧ servesF (l.getD (l.length - 1) evz) = true then (4, l.length) else (0, 0)
def checkG (l : List Ev) : Int × Nat := endB l (scanB (brG l) l.length 0)
/-- A step of the scan at the loop's head. -/
theorem scan_at {br : Nat → Int} {n : Nat} : ∀ k, k ≤ n → (∀ j, j < k → br j = 0) → scanB br n 0 = scanB br (n - k) k := by
 intro k
 induction k with
 | zero => intro _ _; rfl
 | succ k ih =>
  intro hk hb
  rw [ih (by omega) (fun j hj => hb j (by omega)), show n - k = (n - (k + 1)) + 1 by omega]
  show (if br k ≠ 0 then some (br k, k) else scanB br (n - (k + 1)) (k + 1)) = _
  rw [if_neg (by rw [hb k (by omega)]; simp)]
theorem scan_hit {br : Nat → Int} {n k : Nat} (hk : k < n) (hb : ∀ j, j < k → br j = 0) (h : br k ≠ 0) : scanB br n 0 = some (br k, k) := by
 rw [scan_at k (by omega) hb, show n - k = (n - k - 1) + 1 by omega]
 show (if br k ≠ 0 then some (br k, k) else scanB br (n - k - 1) (k + 1)) = _
 rw [if_pos h]
theorem scan_none {br : Nat → Int} {n : Nat} (hb : ∀ j, j < n → br j = 0) : scanB br n 0 = none := by
 rw [scan_at n (Nat.le_refl _) hb, Nat.sub_self]
 rfl
end Go.Proofs.YtchkaaeoffmjnaaGreatDoor
