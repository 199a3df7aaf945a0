/- Texts of the proof, several in one file: EdgeY. -/
import Derived.Test.YtoamjodmidbmbaaGreatDoorE13
set_option linter.unusedVariables false
set_option linter.unusedSimpArgs false
namespace Go.Proofs.YtoamjodmidbmbaaGreatDoor
open Go.RowKit
set_option maxRecDepth 100000
set_option maxHeartbeats 2000000 in
theorem e_next {w : World} {F : List Piece} {A : Piece} {rb i lb lo lc : Nat} {l : List Ev} {s : EdS} {kind g chan case_ value mate : Int} {send ok : Bool} (hA : EvA A lb lo l) (hll : l.length ≤ 2000) (he : l[i]? = some ⟨kind, g, chan, case_, value, mate, send, ok⟩) (hm0 : -1 ≤ mate ∧ mate ≤ 511) (hg0 : -1 ≤ g ∧ g ≤ 511) (hv : kind = 2 → 0 ≤ value) (hch : kind = 3 ∨ kind = 4 ∨ kind = 5 ∨ kind = 7 → 0 ≤ chan ∧ chan < s.chans.length) (hes : s.edges.length ≤ 100000) (hcl : s.chans.length ≤ 100000) (hios : ∀ c ∈ s.chans, c.ins.length ≤ 100000 ∧ c.outs.length ≤ 100000) (H : SL w (EdP rb (.slice (some ⟨lb, lo, none⟩) l.length lc) i s :: A :: F)) :
  Calls Tryz.prog 37 #[.pointer (some ⟨rb, 0, none⟩), .int .i64 i] w fun o w' => o = .returned (.tuple #[]) ∧ SL w' (EdP rb (.slice (some ⟨lb, lo, none⟩) l.length lc) (i + 1) (nextE l i s) :: A :: F) := by
 have hi : i < l.length := (List.getElem?_eq_some_iff.1 he).1
 have hd : l.getD i evz = ⟨kind, g, chan, case_, value, mate, send, ok⟩ := by rw [List.getD_eq_getElem?_getD, he]; rfl
 obtain ⟨ev, cv, ml, mr, mp, n1, n2, n3, ps, hb, H⟩ := EdP.iff.1 H
 obtain ⟨hb1, hb2, hb3, hb4⟩ := hb
 obtain ⟨es, la, ru, pa, cs⟩ := s
 dsimp only at hb1 H hch hes hios hcl
 obtain ⟨ca, cc, rfl⟩ := SL.slcForm H.up5
 by_cases hk : kind = 3 ∨ kind = 4 ∨ kind = 5 ∨ kind = 7
 ·obtain ⟨hc0, hc1⟩ := hch hk
  obtain ⟨k, hck⟩ := Int.eq_ofNat_of_zero_le hc0
  have hkm : k < cs.length := by omega
  obtain ⟨c, hc⟩ : ∃ c, cs[k]? = some c := ⟨_, List.getElem?_eq_getElem hkm⟩
  obtain ⟨p, hp⟩ : ∃ p, ps[k]? = some p := ⟨_, List.getElem?_eq_getElem (by omega)⟩
  have hio := hios c (List.mem_of_getElem? hc)
  obtain ⟨cb, rfl⟩ := SL.slcAddr H.up5 (by omega)
  cases hla : la g with
  | none =>
   have hs2 : ownE i ⟨kind, g, chan, case_, value, mate, send, ok⟩ (fromE i ⟨kind, g, chan, case_, value, mate, send, ok⟩ ⟨es, la, ru, pa, cs⟩) = ⟨es, updN la g i, updN ru g 1, pa, cs⟩ := by unfold ownE fromE; dsimp only; rw [hla]
   refine calls_den (args := [_, _]) Tryz.func37 rfl (Nat.le_of_ble_eq_true (by kernel_rfl)) (by kernel_rfl) ?_
   refine ⟨H.ldi 0 rfl (v := .slice (some ⟨lb, lo, none⟩) l.length lc) rfl ?_⟩
   refine Ix.at i 8 (by kernel_rfl) (rfl) (hi) ?_
   refine H.ldE 7 rfl hA i 0 he (v := .int .i64 kind) rfl (H.ldE 7 rfl hA i 1 he (v := .int .i64 g) rfl (H.ldE 7 rfl hA i 2 he (v := .int .i64 chan) rfl (H.ldE 7 rfl hA i 3 he (v := .int .i64 case_) rfl (H.ldE 7 rfl hA i 4 he (v := .int .i64 value) rfl (H.ldE 7 rfl hA i 5 he (v := .int .i64 mate) rfl ?_)))))
   refine H.ldE 7 rfl hA i 6 he (v := .bool send) rfl (H.ldE 7 rfl hA i 7 he (v := .bool ok) rfl (Nw.as #[.int .i64 0, .int .i64 0, .int .i64 0, .int .i64 0, .int .i64 0, .int .i64 0, .bool false, .bool false] 53 rfl H fun b4 w H => ?_))
   refine SL.stEv H rfl rfl fun w H => ?_
   refine ⟨H.ldi 0 rfl (v := .int .i64 kind) rfl ?_⟩
   refine BB.no (beq_eq_false_iff_ne.2 (by omega)) (Cn.no (⟨Drw.of [(0, true), (1, true), (2, true), (3, true), (4, true), (5, true), (6, true), (7, true), (8, true), (9, true), (10, true), (11, true)] (by kernel_rfl) mixed (fun w => SL w _) H.drew ?_⟩))
   replace H := H.drew
   refine LdC.i 1 rfl (v := .map (some ml)) rfl (LdC.i 0 rfl (v := .int .i64 g) rfl (MnC.lookOk 3 rfl (.tmp 21) (.tmp 23) 72 3 (by rfl) (by kernel_rfl) (by kernel_rfl) (z := .int .i64 0) (fun _ => by kernel_rfl) g (key_wf (by omega) (by omega)) (by rfl) (by rfl) (.int .i64 0) ((mapI_none hla).1) false ((mapI_none hla).2) ?_))
   refine ⟨Cn.no ?_⟩
   refine ⟨Drw.oft (.calm 0 (.calm 1 (.calm 2 (.calm 3 (.calm 4 (.calm 5 (.calm 6 (.calm 7 (.calm 8 (.calm 9 (.calm 10 (.calm 11 (.calm 12 (.act 13 false (.pure 14 (.act 15 false (.act 16 true (.pure 17 (.act 18 true .nil))))))))))))))))))) (by kernel_rfl) mixed (fun w => SL w _) (H.drew.pick [0, 1, 2, 6, 7, 8] 9 (by decide)) ?_⟩
   replace H := H.drew
   refine LdC.i 1 rfl (v := .map (some ml)) rfl (LdC.i 0 rfl (v := .int .i64 g) rfl (LdC.i 1 rfl (v := .map (some mr)) rfl (LdC.i 0 rfl (v := .int .i64 g) rfl (Mn.entry H.up3 (by omega) (.tmp 42) (.tmp 44) 72 3 (by rfl) (by kernel_rfl) (by kernel_rfl) (z := .int .i64 0) (fun _ => by kernel_rfl) g (key_wf (by omega) (by omega)) (by rfl) (by rfl) fun v1 s1 w H => ?_))))
   refine ⟨.inr (H.pick [1, 2, 3, 6, 7, 8] 9 (by decide)), ?_⟩
   refine Mn.estore H (.tmp 42) (.tmp 53) (.tmp 51) 72 (by rfl) (.int .i64 ↑i) (by rfl) (by rfl) (by rfl) fun w H => ?_
   have hob := map_fix (m := la) (k := g) (v := i) H
   obtain ⟨nq1, hq1, H⟩ := hob
   refine ⟨.inr (H.pick [1, 2, 3, 6, 7, 8] 9 (by decide)), ?_⟩
   refine Mn.entry H.up4 (by omega) (.tmp 48) (.tmp 50) 72 3 (by rfl) (by kernel_rfl) (by kernel_rfl) (z := .int .i64 0) (fun _ => by kernel_rfl) g (key_wf (by omega) (by omega)) (by rfl) (by rfl) fun v2 s2 w H => ?_
   refine ⟨.inl rfl, ?_⟩
   refine Mn.estore H (.tmp 48) (.tmp 55) (.const (.int .i64 (1))) 72 (by rfl) (.int .i64 1) (by rfl) (by rfl) (by rfl) fun w H => ?_
   have hob := map_fix (m := ru) (k := g) (v := 1) H
   obtain ⟨nq2, hq2, H⟩ := hob
   refine ⟨.inl rfl, ?_⟩
   refine ⟨H.ldi 2 rfl (v := .int .i64 kind) rfl ?_⟩
   refine ⟨⟨BB.no (beq_eq_false_iff_ne.2 (by omega)) ?_⟩⟩
   refine Cn.no (⟨BB.no (beq_eq_false_iff_ne.2 (by omega)) ?_⟩)
   refine Cn.no (⟨BB.no (beq_eq_false_iff_ne.2 (by omega)) ?_⟩)
   refine Cn.no (⟨BB.vr fun q3 e3 => ?_⟩)
   cases q3
   ·have h3 := beq_eq_false_iff_ne.1 e3
    refine Cn.no (⟨BB.vr fun q4 e4 => ?_⟩)
    cases q4
    ·have h4 := beq_eq_false_iff_ne.1 e4
     refine Cn.no (⟨BB.vr fun q5 e5 => ?_⟩)
     cases q5
     ·have h5 := beq_eq_false_iff_ne.1 e5
      refine Cn.no (⟨BB.yes (beq_iff_eq.2 (by omega)) ?_⟩)
      refine Cn.yes (⟨H.ldi 2 rfl (v := .bool ok) rfl ?_⟩)
      refine BB.k (BB.vr fun q6 e6 => ?_)
      cases q6
      ·have h6 : ok = true := by simpa using e6
       subst h6
       refine Cn.no (⟨H.ldi 2 rfl (v := .int .i64 kind) rfl ?_⟩)
       refine BB.no (beq_eq_false_iff_ne.2 h5) (Cn.no (ret0 rfl ?_))
       have hc2 : nextE l i ⟨es, la, ru, pa, cs⟩ = ⟨es, (updN la g i), (updN ru g 1), pa, cs⟩ := by rw [nextE_no hd (show kind ≠ 13 by omega), hs2, kindE_7 (show kind = 7 by omega) rfl]
       rw [hc2]
       exact ⟨rfl, EdP.iff.2 ⟨ev, _, ml, mr, mp, nq1, nq2, n3, ps, ⟨hb1, by omega, by omega, by omega⟩, H.pick [3, 4, 1, 0, 5, 6, 7, 8] 9 (by decide)⟩⟩
      have h6 : ok = false := by simpa using e6
      subst h6
      refine Cn.yes ?_
      have H0 := H.pick [7, 0, 1, 2, 3, 4, 5, 6, 8] 9 (by decide)
      simp only [pk, nth, pkA, pkB, pkC, pkD, pkE, pkF] at H0
      have hob := chs_takeE hp hc H0
      obtain ⟨u, v, H⟩ := hob
      refine ⟨Drw.of [(0, true), (1, true), (2, true), (3, true), (4, true), (5, true), (6, true), (7, true), (8, true), (9, true), (10, true), (11, true), (12, true), (13, false)] (by kernel_rfl) mixed (fun w => SL w _) H.drew ?_⟩
      replace H := H.drew
      refine LdC.i 7 rfl (v := .slice (some ⟨cb, 0, none⟩) cs.length cc) rfl (LdC.i 6 rfl (v := .int .i64 chan) rfl (Ix.at0 k 1 (by kernel_rfl) (hck) (hkm) ?_))
      refine LdC.S 10 rfl (v := .pointer (some ⟨p, 0, none⟩)) (ptrs_at hp) (LdC.i 0 rfl (v := .int .i64 ↑c.closed) rfl ?_)
      have h1 := H.pick [7, 8, 0, 1, 2, 3, 4, 5, 6, 9, 10, 11] 12 (by decide)
      simp only [pk, nth, pkA, pkB, pkC, pkD, pkE, pkF] at h1
      refine Cl.by (by kernel_rfl) (e_edge c.closed i 4 (by omega) h1) ?_
      rintro _ w ⟨rfl, ev1, H⟩
      refine ⟨_, rfl, ?_⟩
      replace H := H.pick [2, 3, 4, 5, 6, 7, 8, 0, 1, 9, 10, 11] 12 (by decide)
      simp only [pk, nth, pkA, pkB, pkC, pkD, pkE, pkF] at H
      refine ⟨.inl rfl, ?_⟩
      refine ret0 rfl ?_
      have q := H.pick [0, 1, 2, 3, 7, 8, 5, 4, 9, 10, 11] 12 (by decide)
      simp only [pk, nth, pkA, pkB, pkC, pkD, pkE, pkF] at q
      have q2 := chs_putE hp hc (y := c) q
      rw [set_back hc] at q2
      have hc2 : nextE l i ⟨es, la, ru, pa, cs⟩ = ⟨(putL es c.closed i 4), (updN la g i), (updN ru g 1), pa, cs⟩ := by
       rw [nextE_no hd (show kind ≠ 13 by omega), hs2, kindE_no (show kind = 4 ∨ kind = 7 by omega) rfl]
       show (⟨putL es (chAt cs chan).closed i 4, _, _, _, cs⟩ : EdS) = _
       rw [chAt_is hck hc]
      have q3 := q2.pick [1, 2, 3, 4, 5, 6, 0, 7] 8 (by decide)
      simp only [pk, nth, pkA, pkB, pkC, pkD, pkE, pkF] at q3
      rw [hc2]
      exact ⟨rfl, EdP.iff.2 ⟨ev1, _, ml, mr, mp, nq1, nq2, n3, ps, ⟨hb1, by omega, by omega, by omega⟩, q3⟩⟩
     have h5 := eq_of_beq e5
     refine Cn.yes (Cn.yes (⟨H.ldi 2 rfl (v := .bool ok) rfl ?_⟩))
     refine BB.k (BB.vr fun q7 e7 => ?_)
     cases q7
     ·have h7 : ok = true := by simpa using e7
      subst h7
      refine Cn.no (⟨H.ldi 2 rfl (v := .int .i64 kind) rfl ?_⟩)
      refine BB.yes (beq_iff_eq.2 h5) (Cn.yes (⟨?_⟩))
      have h1 := H.pick [3, 6, 7, 5, 8, 0, 1, 2, 4] 9 (by decide)
      simp only [pk, nth, pkA, pkB, pkC, pkD, pkE, pkF] at h1
      refine Cl.sl (by kernel_rfl) (e_moves hA hll he hm0 hck hp hc hio (by first | exact .inl (by assumption) | exact .inr ⟨by assumption, by assumption⟩ | exact .inr ⟨by omega, rfl⟩) h1) fun w H => ?_
      replace H := H.pick [5, 6, 7, 0, 8, 3, 1, 2, 4] 9 (by decide)
      simp only [pk, nth, pkA, pkB, pkC, pkD, pkE, pkF] at H
      refine ret0 rfl ?_
      have hc2 : nextE l i ⟨es, la, ru, pa, cs⟩ = ⟨es, (updN la g i), (updN ru g 1), pa, (cs.set k (movC c ⟨kind, g, chan, case_, value, mate, send, true⟩ i (servE l pa i ⟨kind, g, chan, case_, value, mate, send, true⟩)))⟩ := by
       rw [nextE_no hd (show kind ≠ 13 by omega), hs2, kindE_4 h5 rfl]
       unfold movE
       show (⟨_, _, _, _, cs.set chan.toNat (movC (chAt cs chan) ⟨kind, g, chan, case_, value, mate, send, true⟩ i _)⟩ : EdS) = _
       rw [chAt_is hck hc, hck]
       rfl
      have q3 := H.pick [3, 4, 1, 0, 5, 6, 7, 8] 9 (by decide)
      simp only [pk, nth, pkA, pkB, pkC, pkD, pkE, pkF] at q3
      rw [show cs.length = (cs.set k (movC c ⟨kind, g, chan, case_, value, mate, send, true⟩ i (servE l pa i ⟨kind, g, chan, case_, value, mate, send, true⟩))).length from List.length_set.symm] at q3
      rw [hc2]
      exact ⟨rfl, EdP.iff.2 ⟨ev, _, ml, mr, mp, nq1, nq2, n3, ps, ⟨by simp [hb1], by omega, by omega, by omega⟩, q3⟩⟩
     have h7 : ok = false := by simpa using e7
     subst h7
     refine Cn.yes ?_
     have H0 := H.pick [7, 0, 1, 2, 3, 4, 5, 6, 8] 9 (by decide)
     simp only [pk, nth, pkA, pkB, pkC, pkD, pkE, pkF] at H0
     have hob := chs_takeE hp hc H0
     obtain ⟨u, v, H⟩ := hob
     refine ⟨Drw.of [(0, true), (1, true), (2, true), (3, true), (4, true), (5, true), (6, true), (7, true), (8, true), (9, true), (10, true), (11, true), (12, true), (13, false)] (by kernel_rfl) mixed (fun w => SL w _) H.drew ?_⟩
     replace H := H.drew
     refine LdC.i 7 rfl (v := .slice (some ⟨cb, 0, none⟩) cs.length cc) rfl (LdC.i 6 rfl (v := .int .i64 chan) rfl (Ix.at0 k 1 (by kernel_rfl) (hck) (hkm) ?_))
     refine LdC.S 10 rfl (v := .pointer (some ⟨p, 0, none⟩)) (ptrs_at hp) (LdC.i 0 rfl (v := .int .i64 ↑c.closed) rfl ?_)
     have h1 := H.pick [7, 8, 0, 1, 2, 3, 4, 5, 6, 9, 10, 11] 12 (by decide)
     simp only [pk, nth, pkA, pkB, pkC, pkD, pkE, pkF] at h1
     refine Cl.by (by kernel_rfl) (e_edge c.closed i 4 (by omega) h1) ?_
     rintro _ w ⟨rfl, ev2, H⟩
     refine ⟨_, rfl, ?_⟩
     replace H := H.pick [2, 3, 4, 5, 6, 7, 8, 0, 1, 9, 10, 11] 12 (by decide)
     simp only [pk, nth, pkA, pkB, pkC, pkD, pkE, pkF] at H
     refine ⟨.inl rfl, ?_⟩
     refine ret0 rfl ?_
     have q := H.pick [0, 1, 2, 3, 7, 8, 5, 4, 9, 10, 11] 12 (by decide)
     simp only [pk, nth, pkA, pkB, pkC, pkD, pkE, pkF] at q
     have q2 := chs_putE hp hc (y := c) q
     rw [set_back hc] at q2
     have hc2 : nextE l i ⟨es, la, ru, pa, cs⟩ = ⟨(putL es c.closed i 4), (updN la g i), (updN ru g 1), pa, cs⟩ := by
      rw [nextE_no hd (show kind ≠ 13 by omega), hs2, kindE_no (show kind = 4 ∨ kind = 7 by omega) rfl]
      show (⟨putL es (chAt cs chan).closed i 4, _, _, _, cs⟩ : EdS) = _
      rw [chAt_is hck hc]
     have q3 := q2.pick [1, 2, 3, 4, 5, 6, 0, 7] 8 (by decide)
     simp only [pk, nth, pkA, pkB, pkC, pkD, pkE, pkF] at q3
     rw [hc2]
     exact ⟨rfl, EdP.iff.2 ⟨ev2, _, ml, mr, mp, nq1, nq2, n3, ps, ⟨hb1, by omega, by omega, by omega⟩, q3⟩⟩
    have h4 := eq_of_beq e4
    refine Cn.yes (⟨?_⟩)
    have h1 := H.pick [3, 6, 7, 5, 8, 0, 1, 2, 4] 9 (by decide)
    simp only [pk, nth, pkA, pkB, pkC, pkD, pkE, pkF] at h1
    refine Cl.sl (by kernel_rfl) (e_moves hA hll he hm0 hck hp hc hio (by first | exact .inl (by assumption) | exact .inr ⟨by assumption, by assumption⟩ | exact .inr ⟨by omega, rfl⟩) h1) fun w H => ?_
    replace H := H.pick [5, 6, 7, 0, 8, 3, 1, 2, 4] 9 (by decide)
    simp only [pk, nth, pkA, pkB, pkC, pkD, pkE, pkF] at H
    refine ret0 rfl ?_
    have hc2 : nextE l i ⟨es, la, ru, pa, cs⟩ = ⟨es, (updN la g i), (updN ru g 1), pa, (cs.set k (movC c ⟨kind, g, chan, case_, value, mate, send, ok⟩ i (servE l pa i ⟨kind, g, chan, case_, value, mate, send, ok⟩)))⟩ := by
     rw [nextE_no hd (show kind ≠ 13 by omega), hs2, kindE_3 h4]
     unfold movE
     show (⟨_, _, _, _, cs.set chan.toNat (movC (chAt cs chan) ⟨kind, g, chan, case_, value, mate, send, ok⟩ i _)⟩ : EdS) = _
     rw [chAt_is hck hc, hck]
     rfl
    have q3 := H.pick [3, 4, 1, 0, 5, 6, 7, 8] 9 (by decide)
    simp only [pk, nth, pkA, pkB, pkC, pkD, pkE, pkF] at q3
    rw [show cs.length = (cs.set k (movC c ⟨kind, g, chan, case_, value, mate, send, ok⟩ i (servE l pa i ⟨kind, g, chan, case_, value, mate, send, ok⟩))).length from List.length_set.symm] at q3
    rw [hc2]
    exact ⟨rfl, EdP.iff.2 ⟨ev, _, ml, mr, mp, nq1, nq2, n3, ps, ⟨by simp [hb1], by omega, by omega, by omega⟩, q3⟩⟩
   have h3 := eq_of_beq e3
   refine Cn.yes ?_
   have H0 := H.pick [7, 0, 1, 2, 3, 4, 5, 6, 8] 9 (by decide)
   simp only [pk, nth, pkA, pkB, pkC, pkD, pkE, pkF] at H0
   have hob := chs_takeE hp hc H0
   obtain ⟨u, v, H⟩ := hob
   refine ⟨Drw.of [(0, true), (1, true), (2, true), (3, true), (4, true), (5, true), (6, true), (7, true), (8, true), (9, true), (10, true), (11, false)] (by kernel_rfl) mixed (fun w => SL w _) H.drew ?_⟩
   replace H := H.drew
   refine LdC.i 7 rfl (v := .slice (some ⟨cb, 0, none⟩) cs.length cc) rfl (LdC.i 6 rfl (v := .int .i64 chan) rfl (Ix.at0 k 1 (by kernel_rfl) (hck) (hkm) ?_))
   refine LdC.S 10 rfl (v := .pointer (some ⟨p, 0, none⟩)) (ptrs_at hp) (H.st0 (cs' := #[.int .i64 ↑c.size, u, v, .int .i64 ↑i]) rfl rfl rfl fun w H => ?_)
   refine ⟨.inl rfl, ?_⟩
   refine ret0 rfl ?_
   have q := H.pick [0, 1, 2, 3, 7, 8, 5, 4, 9, 10, 11] 12 (by decide)
   simp only [pk, nth, pkA, pkB, pkC, pkD, pkE, pkF] at q
   have q2 := chs_putE hp hc (y := { c with closed := i }) q
   have hc2 : nextE l i ⟨es, la, ru, pa, cs⟩ = ⟨es, (updN la g i), (updN ru g 1), pa, (cs.set k { c with closed := i })⟩ := by
    rw [nextE_no hd (show kind ≠ 13 by omega), hs2, kindE_5 h3]
    show (⟨_, _, _, _, cs.set chan.toNat { chAt cs chan with closed := i }⟩ : EdS) = _
    rw [chAt_is hck hc, hck]
    rfl
   have q3 := q2.pick [1, 2, 3, 4, 5, 6, 0, 7] 8 (by decide)
   simp only [pk, nth, pkA, pkB, pkC, pkD, pkE, pkF] at q3
   rw [show cs.length = (cs.set k { c with closed := i }).length from List.length_set.symm] at q3
   rw [hc2]
   exact ⟨rfl, EdP.iff.2 ⟨ev, _, ml, mr, mp, nq1, nq2, n3, ps, ⟨by simp [hb1], by omega, by omega, by omega⟩, q3⟩⟩
  | some f =>
   have hs2 : ownE i ⟨kind, g, chan, case_, value, mate, send, ok⟩ (fromE i ⟨kind, g, chan, case_, value, mate, send, ok⟩ ⟨es, la, ru, pa, cs⟩) = ⟨putL es f i ((ru g).getD 0), updN la g i, updN ru g 1, pa, cs⟩ := by unfold ownE fromE; dsimp only; rw [hla]
   refine calls_den (args := [_, _]) Tryz.func37 rfl (Nat.le_of_ble_eq_true (by kernel_rfl)) (by kernel_rfl) ?_
   refine ⟨H.ldi 0 rfl (v := .slice (some ⟨lb, lo, none⟩) l.length lc) rfl ?_⟩
   refine Ix.at i 8 (by kernel_rfl) (rfl) (hi) ?_
   refine H.ldE 7 rfl hA i 0 he (v := .int .i64 kind) rfl (H.ldE 7 rfl hA i 1 he (v := .int .i64 g) rfl (H.ldE 7 rfl hA i 2 he (v := .int .i64 chan) rfl (H.ldE 7 rfl hA i 3 he (v := .int .i64 case_) rfl (H.ldE 7 rfl hA i 4 he (v := .int .i64 value) rfl (H.ldE 7 rfl hA i 5 he (v := .int .i64 mate) rfl ?_)))))
   refine H.ldE 7 rfl hA i 6 he (v := .bool send) rfl (H.ldE 7 rfl hA i 7 he (v := .bool ok) rfl (Nw.as #[.int .i64 0, .int .i64 0, .int .i64 0, .int .i64 0, .int .i64 0, .int .i64 0, .bool false, .bool false] 53 rfl H fun b4 w H => ?_))
   refine SL.stEv H rfl rfl fun w H => ?_
   refine ⟨H.ldi 0 rfl (v := .int .i64 kind) rfl ?_⟩
   refine BB.no (beq_eq_false_iff_ne.2 (by omega)) (Cn.no (⟨Drw.of [(0, true), (1, true), (2, true), (3, true), (4, true), (5, true), (6, true), (7, true), (8, true), (9, true), (10, true), (11, true)] (by kernel_rfl) mixed (fun w => SL w _) H.drew ?_⟩))
   replace H := H.drew
   refine LdC.i 1 rfl (v := .map (some ml)) rfl (LdC.i 0 rfl (v := .int .i64 g) rfl (MnC.lookOk 3 rfl (.tmp 21) (.tmp 23) 72 3 (by rfl) (by kernel_rfl) (by kernel_rfl) (z := .int .i64 0) (fun _ => by kernel_rfl) g (key_wf (by omega) (by omega)) (by rfl) (by rfl) (.int .i64 ↑f) ((mapI_some hla).1) true ((mapI_some hla).2) ?_))
   refine ⟨Cn.yes ?_⟩
   refine ⟨Drw.of [(0, true), (1, true), (2, true), (3, true), (4, true), (5, true), (6, true), (7, true), (8, true), (9, true), (10, false)] (by kernel_rfl) mixed (fun w => SL w _) H.drew ?_⟩
   replace H := H.drew
   refine LdC.i 1 rfl (v := .map (some mr)) rfl (LdC.i 0 rfl (v := .int .i64 g) rfl (MnC.lookV 4 rfl (.tmp 34) (.tmp 36) 72 3 (by rfl) (by kernel_rfl) (by kernel_rfl) (z := .int .i64 0) (fun _ => by kernel_rfl) g (key_wf (by omega) (by omega)) (by rfl) (by rfl) (.int .i64 (↑((ru g).getD 0))) (mapI_get _ _) ?_))
   have h1 := H.pick [1, 2, 0, 3, 4, 5, 6, 7, 8] 9 (by decide)
   simp only [pk, nth, pkA, pkB, pkC, pkD, pkE, pkF] at h1
   refine Cl.by (by kernel_rfl) (e_edge f i ((ru g).getD 0) (by have := putL_len es f i ((ru g).getD 0); omega) h1) ?_
   rintro _ w ⟨rfl, ev1, H⟩
   refine ⟨_, rfl, ?_⟩
   replace H := H.pick [2, 0, 1, 3, 4, 5, 6, 7, 8] 9 (by decide)
   simp only [pk, nth, pkA, pkB, pkC, pkD, pkE, pkF] at H
   refine ⟨.inl rfl, ?_⟩
   refine ⟨Drw.oft (.calm 0 (.calm 1 (.calm 2 (.calm 3 (.calm 4 (.calm 5 (.calm 6 (.calm 7 (.calm 8 (.calm 9 (.calm 10 (.calm 11 (.calm 12 (.act 13 false (.pure 14 (.act 15 false (.act 16 true (.pure 17 (.act 18 true .nil))))))))))))))))))) (by kernel_rfl) mixed (fun w => SL w _) (H.drew.pick [0, 1, 2, 6, 7, 8] 9 (by decide)) ?_⟩
   replace H := H.drew
   refine LdC.i 1 rfl (v := .map (some ml)) rfl (LdC.i 0 rfl (v := .int .i64 g) rfl (LdC.i 1 rfl (v := .map (some mr)) rfl (LdC.i 0 rfl (v := .int .i64 g) rfl (Mn.entry H.up3 (by omega) (.tmp 42) (.tmp 44) 72 3 (by rfl) (by kernel_rfl) (by kernel_rfl) (z := .int .i64 0) (fun _ => by kernel_rfl) g (key_wf (by omega) (by omega)) (by rfl) (by rfl) fun v1 s1 w H => ?_))))
   refine ⟨.inr (H.pick [1, 2, 3, 6, 7, 8] 9 (by decide)), ?_⟩
   refine Mn.estore H (.tmp 42) (.tmp 53) (.tmp 51) 72 (by rfl) (.int .i64 ↑i) (by rfl) (by rfl) (by rfl) fun w H => ?_
   have hob := map_fix (m := la) (k := g) (v := i) H
   obtain ⟨nq1, hq1, H⟩ := hob
   refine ⟨.inr (H.pick [1, 2, 3, 6, 7, 8] 9 (by decide)), ?_⟩
   refine Mn.entry H.up4 (by omega) (.tmp 48) (.tmp 50) 72 3 (by rfl) (by kernel_rfl) (by kernel_rfl) (z := .int .i64 0) (fun _ => by kernel_rfl) g (key_wf (by omega) (by omega)) (by rfl) (by rfl) fun v2 s2 w H => ?_
   refine ⟨.inl rfl, ?_⟩
   refine Mn.estore H (.tmp 48) (.tmp 55) (.const (.int .i64 (1))) 72 (by rfl) (.int .i64 1) (by rfl) (by rfl) (by rfl) fun w H => ?_
   have hob := map_fix (m := ru) (k := g) (v := 1) H
   obtain ⟨nq2, hq2, H⟩ := hob
   refine ⟨.inl rfl, ?_⟩
   refine ⟨H.ldi 2 rfl (v := .int .i64 kind) rfl ?_⟩
   refine ⟨⟨BB.no (beq_eq_false_iff_ne.2 (by omega)) ?_⟩⟩
   refine Cn.no (⟨BB.no (beq_eq_false_iff_ne.2 (by omega)) ?_⟩)
   refine Cn.no (⟨BB.no (beq_eq_false_iff_ne.2 (by omega)) ?_⟩)
   refine Cn.no (⟨BB.vr fun q3 e3 => ?_⟩)
   cases q3
   ·have h3 := beq_eq_false_iff_ne.1 e3
    refine Cn.no (⟨BB.vr fun q4 e4 => ?_⟩)
    cases q4
    ·have h4 := beq_eq_false_iff_ne.1 e4
     refine Cn.no (⟨BB.vr fun q5 e5 => ?_⟩)
     cases q5
     ·have h5 := beq_eq_false_iff_ne.1 e5
      refine Cn.no (⟨BB.yes (beq_iff_eq.2 (by omega)) ?_⟩)
      refine Cn.yes (⟨H.ldi 2 rfl (v := .bool ok) rfl ?_⟩)
      refine BB.k (BB.vr fun q6 e6 => ?_)
      cases q6
      ·have h6 : ok = true := by simpa using e6
       subst h6
       refine Cn.no (⟨H.ldi 2 rfl (v := .int .i64 kind) rfl ?_⟩)
       refine BB.no (beq_eq_false_iff_ne.2 h5) (Cn.no (ret0 rfl ?_))
       have hc2 : nextE l i ⟨es, la, ru, pa, cs⟩ = ⟨(putL es f i ((ru g).getD 0)), (updN la g i), (updN ru g 1), pa, cs⟩ := by rw [nextE_no hd (show kind ≠ 13 by omega), hs2, kindE_7 (show kind = 7 by omega) rfl]
       rw [hc2]
       exact ⟨rfl, EdP.iff.2 ⟨ev1, _, ml, mr, mp, nq1, nq2, n3, ps, ⟨hb1, by omega, by omega, by omega⟩, H.pick [3, 4, 1, 0, 5, 6, 7, 8] 9 (by decide)⟩⟩
      have h6 : ok = false := by simpa using e6
      subst h6
      refine Cn.yes ?_
      have H0 := H.pick [7, 0, 1, 2, 3, 4, 5, 6, 8] 9 (by decide)
      simp only [pk, nth, pkA, pkB, pkC, pkD, pkE, pkF] at H0
      have hob := chs_takeE hp hc H0
      obtain ⟨u, v, H⟩ := hob
      refine ⟨Drw.of [(0, true), (1, true), (2, true), (3, true), (4, true), (5, true), (6, true), (7, true), (8, true), (9, true), (10, true), (11, true), (12, true), (13, false)] (by kernel_rfl) mixed (fun w => SL w _) H.drew ?_⟩
      replace H := H.drew
      refine LdC.i 7 rfl (v := .slice (some ⟨cb, 0, none⟩) cs.length cc) rfl (LdC.i 6 rfl (v := .int .i64 chan) rfl (Ix.at0 k 1 (by kernel_rfl) (hck) (hkm) ?_))
      refine LdC.S 10 rfl (v := .pointer (some ⟨p, 0, none⟩)) (ptrs_at hp) (LdC.i 0 rfl (v := .int .i64 ↑c.closed) rfl ?_)
      have h1 := H.pick [7, 8, 0, 1, 2, 3, 4, 5, 6, 9, 10, 11] 12 (by decide)
      simp only [pk, nth, pkA, pkB, pkC, pkD, pkE, pkF] at h1
      refine Cl.by (by kernel_rfl) (e_edge c.closed i 4 (by have := putL_len es f i ((ru g).getD 0); omega) h1) ?_
      rintro _ w ⟨rfl, ev2, H⟩
      refine ⟨_, rfl, ?_⟩
      replace H := H.pick [2, 3, 4, 5, 6, 7, 8, 0, 1, 9, 10, 11] 12 (by decide)
      simp only [pk, nth, pkA, pkB, pkC, pkD, pkE, pkF] at H
      refine ⟨.inl rfl, ?_⟩
      refine ret0 rfl ?_
      have q := H.pick [0, 1, 2, 3, 7, 8, 5, 4, 9, 10, 11] 12 (by decide)
      simp only [pk, nth, pkA, pkB, pkC, pkD, pkE, pkF] at q
      have q2 := chs_putE hp hc (y := c) q
      rw [set_back hc] at q2
      have hc2 : nextE l i ⟨es, la, ru, pa, cs⟩ = ⟨(putL (putL es f i ((ru g).getD 0)) c.closed i 4), (updN la g i), (updN ru g 1), pa, cs⟩ := by
       rw [nextE_no hd (show kind ≠ 13 by omega), hs2, kindE_no (show kind = 4 ∨ kind = 7 by omega) rfl]
       show (⟨putL (putL es f i ((ru g).getD 0)) (chAt cs chan).closed i 4, _, _, _, cs⟩ : EdS) = _
       rw [chAt_is hck hc]
      have q3 := q2.pick [1, 2, 3, 4, 5, 6, 0, 7] 8 (by decide)
      simp only [pk, nth, pkA, pkB, pkC, pkD, pkE, pkF] at q3
      rw [hc2]
      exact ⟨rfl, EdP.iff.2 ⟨ev2, _, ml, mr, mp, nq1, nq2, n3, ps, ⟨hb1, by omega, by omega, by omega⟩, q3⟩⟩
     have h5 := eq_of_beq e5
     refine Cn.yes (Cn.yes (⟨H.ldi 2 rfl (v := .bool ok) rfl ?_⟩))
     refine BB.k (BB.vr fun q7 e7 => ?_)
     cases q7
     ·have h7 : ok = true := by simpa using e7
      subst h7
      refine Cn.no (⟨H.ldi 2 rfl (v := .int .i64 kind) rfl ?_⟩)
      refine BB.yes (beq_iff_eq.2 h5) (Cn.yes (⟨?_⟩))
      have h1 := H.pick [3, 6, 7, 5, 8, 0, 1, 2, 4] 9 (by decide)
      simp only [pk, nth, pkA, pkB, pkC, pkD, pkE, pkF] at h1
      refine Cl.sl (by kernel_rfl) (e_moves hA hll he hm0 hck hp hc hio (by first | exact .inl (by assumption) | exact .inr ⟨by assumption, by assumption⟩ | exact .inr ⟨by omega, rfl⟩) h1) fun w H => ?_
      replace H := H.pick [5, 6, 7, 0, 8, 3, 1, 2, 4] 9 (by decide)
      simp only [pk, nth, pkA, pkB, pkC, pkD, pkE, pkF] at H
      refine ret0 rfl ?_
      have hc2 : nextE l i ⟨es, la, ru, pa, cs⟩ = ⟨(putL es f i ((ru g).getD 0)), (updN la g i), (updN ru g 1), pa, (cs.set k (movC c ⟨kind, g, chan, case_, value, mate, send, true⟩ i (servE l pa i ⟨kind, g, chan, case_, value, mate, send, true⟩)))⟩ := by
       rw [nextE_no hd (show kind ≠ 13 by omega), hs2, kindE_4 h5 rfl]
       unfold movE
       show (⟨_, _, _, _, cs.set chan.toNat (movC (chAt cs chan) ⟨kind, g, chan, case_, value, mate, send, true⟩ i _)⟩ : EdS) = _
       rw [chAt_is hck hc, hck]
       rfl
      have q3 := H.pick [3, 4, 1, 0, 5, 6, 7, 8] 9 (by decide)
      simp only [pk, nth, pkA, pkB, pkC, pkD, pkE, pkF] at q3
      rw [show cs.length = (cs.set k (movC c ⟨kind, g, chan, case_, value, mate, send, true⟩ i (servE l pa i ⟨kind, g, chan, case_, value, mate, send, true⟩))).length from List.length_set.symm] at q3
      rw [hc2]
      exact ⟨rfl, EdP.iff.2 ⟨ev1, _, ml, mr, mp, nq1, nq2, n3, ps, ⟨by simp [hb1], by omega, by omega, by omega⟩, q3⟩⟩
     have h7 : ok = false := by simpa using e7
     subst h7
     refine Cn.yes ?_
     have H0 := H.pick [7, 0, 1, 2, 3, 4, 5, 6, 8] 9 (by decide)
     simp only [pk, nth, pkA, pkB, pkC, pkD, pkE, pkF] at H0
     have hob := chs_takeE hp hc H0
     obtain ⟨u, v, H⟩ := hob
     refine ⟨Drw.of [(0, true), (1, true), (2, true), (3, true), (4, true), (5, true), (6, true), (7, true), (8, true), (9, true), (10, true), (11, true), (12, true), (13, false)] (by kernel_rfl) mixed (fun w => SL w _) H.drew ?_⟩
     replace H := H.drew
     refine LdC.i 7 rfl (v := .slice (some ⟨cb, 0, none⟩) cs.length cc) rfl (LdC.i 6 rfl (v := .int .i64 chan) rfl (Ix.at0 k 1 (by kernel_rfl) (hck) (hkm) ?_))
     refine LdC.S 10 rfl (v := .pointer (some ⟨p, 0, none⟩)) (ptrs_at hp) (LdC.i 0 rfl (v := .int .i64 ↑c.closed) rfl ?_)
     have h1 := H.pick [7, 8, 0, 1, 2, 3, 4, 5, 6, 9, 10, 11] 12 (by decide)
     simp only [pk, nth, pkA, pkB, pkC, pkD, pkE, pkF] at h1
     refine Cl.by (by kernel_rfl) (e_edge c.closed i 4 (by have := putL_len es f i ((ru g).getD 0); omega) h1) ?_
     rintro _ w ⟨rfl, ev3, H⟩
     refine ⟨_, rfl, ?_⟩
     replace H := H.pick [2, 3, 4, 5, 6, 7, 8, 0, 1, 9, 10, 11] 12 (by decide)
     simp only [pk, nth, pkA, pkB, pkC, pkD, pkE, pkF] at H
     refine ⟨.inl rfl, ?_⟩
     refine ret0 rfl ?_
     have q := H.pick [0, 1, 2, 3, 7, 8, 5, 4, 9, 10, 11] 12 (by decide)
     simp only [pk, nth, pkA, pkB, pkC, pkD, pkE, pkF] at q
     have q2 := chs_putE hp hc (y := c) q
     rw [set_back hc] at q2
     have hc2 : nextE l i ⟨es, la, ru, pa, cs⟩ = ⟨(putL (putL es f i ((ru g).getD 0)) c.closed i 4), (updN la g i), (updN ru g 1), pa, cs⟩ := by
      rw [nextE_no hd (show kind ≠ 13 by omega), hs2, kindE_no (show kind = 4 ∨ kind = 7 by omega) rfl]
      show (⟨putL (putL es f i ((ru g).getD 0)) (chAt cs chan).closed i 4, _, _, _, cs⟩ : EdS) = _
      rw [chAt_is hck hc]
     have q3 := q2.pick [1, 2, 3, 4, 5, 6, 0, 7] 8 (by decide)
     simp only [pk, nth, pkA, pkB, pkC, pkD, pkE, pkF] at q3
     rw [hc2]
     exact ⟨rfl, EdP.iff.2 ⟨ev3, _, ml, mr, mp, nq1, nq2, n3, ps, ⟨hb1, by omega, by omega, by omega⟩, q3⟩⟩
    have h4 := eq_of_beq e4
    refine Cn.yes (⟨?_⟩)
    have h1 := H.pick [3, 6, 7, 5, 8, 0, 1, 2, 4] 9 (by decide)
    simp only [pk, nth, pkA, pkB, pkC, pkD, pkE, pkF] at h1
    refine Cl.sl (by kernel_rfl) (e_moves hA hll he hm0 hck hp hc hio (by first | exact .inl (by assumption) | exact .inr ⟨by assumption, by assumption⟩ | exact .inr ⟨by omega, rfl⟩) h1) fun w H => ?_
    replace H := H.pick [5, 6, 7, 0, 8, 3, 1, 2, 4] 9 (by decide)
    simp only [pk, nth, pkA, pkB, pkC, pkD, pkE, pkF] at H
    refine ret0 rfl ?_
    have hc2 : nextE l i ⟨es, la, ru, pa, cs⟩ = ⟨(putL es f i ((ru g).getD 0)), (updN la g i), (updN ru g 1), pa, (cs.set k (movC c ⟨kind, g, chan, case_, value, mate, send, ok⟩ i (servE l pa i ⟨kind, g, chan, case_, value, mate, send, ok⟩)))⟩ := by
     rw [nextE_no hd (show kind ≠ 13 by omega), hs2, kindE_3 h4]
     unfold movE
     show (⟨_, _, _, _, cs.set chan.toNat (movC (chAt cs chan) ⟨kind, g, chan, case_, value, mate, send, ok⟩ i _)⟩ : EdS) = _
     rw [chAt_is hck hc, hck]
     rfl
    have q3 := H.pick [3, 4, 1, 0, 5, 6, 7, 8] 9 (by decide)
    simp only [pk, nth, pkA, pkB, pkC, pkD, pkE, pkF] at q3
    rw [show cs.length = (cs.set k (movC c ⟨kind, g, chan, case_, value, mate, send, ok⟩ i (servE l pa i ⟨kind, g, chan, case_, value, mate, send, ok⟩))).length from List.length_set.symm] at q3
    rw [hc2]
    exact ⟨rfl, EdP.iff.2 ⟨ev1, _, ml, mr, mp, nq1, nq2, n3, ps, ⟨by simp [hb1], by omega, by omega, by omega⟩, q3⟩⟩
   have h3 := eq_of_beq e3
   refine Cn.yes ?_
   have H0 := H.pick [7, 0, 1, 2, 3, 4, 5, 6, 8] 9 (by decide)
   simp only [pk, nth, pkA, pkB, pkC, pkD, pkE, pkF] at H0
   have hob := chs_takeE hp hc H0
   obtain ⟨u, v, H⟩ := hob
   refine ⟨Drw.of [(0, true), (1, true), (2, true), (3, true), (4, true), (5, true), (6, true), (7, true), (8, true), (9, true), (10, true), (11, false)] (by kernel_rfl) mixed (fun w => SL w _) H.drew ?_⟩
   replace H := H.drew
   refine LdC.i 7 rfl (v := .slice (some ⟨cb, 0, none⟩) cs.length cc) rfl (LdC.i 6 rfl (v := .int .i64 chan) rfl (Ix.at0 k 1 (by kernel_rfl) (hck) (hkm) ?_))
   refine LdC.S 10 rfl (v := .pointer (some ⟨p, 0, none⟩)) (ptrs_at hp) (H.st0 (cs' := #[.int .i64 ↑c.size, u, v, .int .i64 ↑i]) rfl rfl rfl fun w H => ?_)
   refine ⟨.inl rfl, ?_⟩
   refine ret0 rfl ?_
   have q := H.pick [0, 1, 2, 3, 7, 8, 5, 4, 9, 10, 11] 12 (by decide)
   simp only [pk, nth, pkA, pkB, pkC, pkD, pkE, pkF] at q
   have q2 := chs_putE hp hc (y := { c with closed := i }) q
   have hc2 : nextE l i ⟨es, la, ru, pa, cs⟩ = ⟨(putL es f i ((ru g).getD 0)), (updN la g i), (updN ru g 1), pa, (cs.set k { c with closed := i })⟩ := by
    rw [nextE_no hd (show kind ≠ 13 by omega), hs2, kindE_5 h3]
    show (⟨_, _, _, _, cs.set chan.toNat { chAt cs chan with closed := i }⟩ : EdS) = _
    rw [chAt_is hck hc, hck]
    rfl
   have q3 := q2.pick [1, 2, 3, 4, 5, 6, 0, 7] 8 (by decide)
   simp only [pk, nth, pkA, pkB, pkC, pkD, pkE, pkF] at q3
   rw [show cs.length = (cs.set k { c with closed := i }).length from List.length_set.symm] at q3
   rw [hc2]
   exact ⟨rfl, EdP.iff.2 ⟨ev1, _, ml, mr, mp, nq1, nq2, n3, ps, ⟨by simp [hb1], by omega, by omega, by omega⟩, q3⟩⟩
 ·cases hla : la g with
  | none =>
   have hs2 : ownE i ⟨kind, g, chan, case_, value, mate, send, ok⟩ (fromE i ⟨kind, g, chan, case_, value, mate, send, ok⟩ ⟨es, la, ru, pa, cs⟩) = ⟨es, updN la g i, updN ru g 1, pa, cs⟩ := by unfold ownE fromE; dsimp only; rw [hla]
   refine calls_den (args := [_, _]) Tryz.func37 rfl (Nat.le_of_ble_eq_true (by kernel_rfl)) (by kernel_rfl) ?_
   refine ⟨H.ldi 0 rfl (v := .slice (some ⟨lb, lo, none⟩) l.length lc) rfl ?_⟩
   refine Ix.at i 8 (by kernel_rfl) (rfl) (hi) ?_
   refine H.ldE 7 rfl hA i 0 he (v := .int .i64 kind) rfl (H.ldE 7 rfl hA i 1 he (v := .int .i64 g) rfl (H.ldE 7 rfl hA i 2 he (v := .int .i64 chan) rfl (H.ldE 7 rfl hA i 3 he (v := .int .i64 case_) rfl (H.ldE 7 rfl hA i 4 he (v := .int .i64 value) rfl (H.ldE 7 rfl hA i 5 he (v := .int .i64 mate) rfl ?_)))))
   refine H.ldE 7 rfl hA i 6 he (v := .bool send) rfl (H.ldE 7 rfl hA i 7 he (v := .bool ok) rfl (Nw.as #[.int .i64 0, .int .i64 0, .int .i64 0, .int .i64 0, .int .i64 0, .int .i64 0, .bool false, .bool false] 53 rfl H fun b4 w H => ?_))
   refine SL.stEv H rfl rfl fun w H => ?_
   refine ⟨H.ldi 0 rfl (v := .int .i64 kind) rfl ?_⟩
   refine BB.vr fun q1 e1 => ?_
   cases q1
   ·have h1 := beq_eq_false_iff_ne.1 e1
    refine Cn.no (⟨Drw.of [(0, true), (1, true), (2, true), (3, true), (4, true), (5, true), (6, true), (7, true), (8, true), (9, true), (10, true), (11, true)] (by kernel_rfl) mixed (fun w => SL w _) H.drew ?_⟩)
    replace H := H.drew
    refine LdC.i 1 rfl (v := .map (some ml)) rfl (LdC.i 0 rfl (v := .int .i64 g) rfl (MnC.lookOk 3 rfl (.tmp 21) (.tmp 23) 72 3 (by rfl) (by kernel_rfl) (by kernel_rfl) (z := .int .i64 0) (fun _ => by kernel_rfl) g (key_wf (by omega) (by omega)) (by rfl) (by rfl) (.int .i64 0) ((mapI_none hla).1) false ((mapI_none hla).2) ?_))
    refine ⟨Cn.no ?_⟩
    refine ⟨Drw.oft (.calm 0 (.calm 1 (.calm 2 (.calm 3 (.calm 4 (.calm 5 (.calm 6 (.calm 7 (.calm 8 (.calm 9 (.calm 10 (.calm 11 (.calm 12 (.act 13 false (.pure 14 (.act 15 false (.act 16 true (.pure 17 (.act 18 true .nil))))))))))))))))))) (by kernel_rfl) mixed (fun w => SL w _) (H.drew.pick [0, 1, 2, 6, 7, 8] 9 (by decide)) ?_⟩
    replace H := H.drew
    refine LdC.i 1 rfl (v := .map (some ml)) rfl (LdC.i 0 rfl (v := .int .i64 g) rfl (LdC.i 1 rfl (v := .map (some mr)) rfl (LdC.i 0 rfl (v := .int .i64 g) rfl (Mn.entry H.up3 (by omega) (.tmp 42) (.tmp 44) 72 3 (by rfl) (by kernel_rfl) (by kernel_rfl) (z := .int .i64 0) (fun _ => by kernel_rfl) g (key_wf (by omega) (by omega)) (by rfl) (by rfl) fun v2 s2 w H => ?_))))
    refine ⟨.inr (H.pick [1, 2, 3, 6, 7, 8] 9 (by decide)), ?_⟩
    refine Mn.estore H (.tmp 42) (.tmp 53) (.tmp 51) 72 (by rfl) (.int .i64 ↑i) (by rfl) (by rfl) (by rfl) fun w H => ?_
    have hob := map_fix (m := la) (k := g) (v := i) H
    obtain ⟨nq1, hq1, H⟩ := hob
    refine ⟨.inr (H.pick [1, 2, 3, 6, 7, 8] 9 (by decide)), ?_⟩
    refine Mn.entry H.up4 (by omega) (.tmp 48) (.tmp 50) 72 3 (by rfl) (by kernel_rfl) (by kernel_rfl) (z := .int .i64 0) (fun _ => by kernel_rfl) g (key_wf (by omega) (by omega)) (by rfl) (by rfl) fun v3 s3 w H => ?_
    refine ⟨.inl rfl, ?_⟩
    refine Mn.estore H (.tmp 48) (.tmp 55) (.const (.int .i64 (1))) 72 (by rfl) (.int .i64 1) (by rfl) (by rfl) (by rfl) fun w H => ?_
    have hob := map_fix (m := ru) (k := g) (v := 1) H
    obtain ⟨nq2, hq2, H⟩ := hob
    refine ⟨.inl rfl, ?_⟩
    refine ⟨H.ldi 2 rfl (v := .int .i64 kind) rfl ?_⟩
    refine ⟨⟨BB.vr fun q4 e4 => ?_⟩⟩
    cases q4
    ·have h4 := beq_eq_false_iff_ne.1 e4
     refine Cn.no (⟨BB.vr fun q5 e5 => ?_⟩)
     cases q5
     ·have h5 := beq_eq_false_iff_ne.1 e5
      refine Cn.no (⟨BB.vr fun q6 e6 => ?_⟩)
      cases q6
      ·have h6 := beq_eq_false_iff_ne.1 e6
       refine Cn.no (⟨BB.no (beq_eq_false_iff_ne.2 (by omega)) ?_⟩)
       refine Cn.no (⟨BB.no (beq_eq_false_iff_ne.2 (by omega)) ?_⟩)
       refine Cn.no (⟨BB.no (beq_eq_false_iff_ne.2 (by omega)) ?_⟩)
       refine Cn.no (⟨BB.no (beq_eq_false_iff_ne.2 (by omega)) ?_⟩)
       refine Cn.no (ret0 rfl ?_)
       have hc2 : nextE l i ⟨es, la, ru, pa, cs⟩ = ⟨es, (updN la g i), (updN ru g 1), pa, cs⟩ := by rw [nextE_no hd (show kind ≠ 13 by omega), hs2, kindE_no1 (show kind ≠ 1 ∧ kind ≠ 2 ∧ kind ≠ 6 ∧ kind ≠ 5 ∧ kind ≠ 3 ∧ kind ≠ 4 ∧ kind ≠ 7 by omega)]
       rw [hc2]
       exact ⟨rfl, EdP.iff.2 ⟨ev, _, ml, mr, mp, nq1, nq2, n3, ps, ⟨hb1, by omega, by omega, by omega⟩, H.pick [3, 4, 1, 0, 5, 6, 7, 8] 9 (by decide)⟩⟩
      have h6 := eq_of_beq e6
      refine Cn.yes (⟨Drw.of [(0, true), (1, true), (2, true), (3, true), (4, true), (5, true), (6, true), (7, false)] (by kernel_rfl) mixed (fun w => SL w _) H.drew ?_⟩)
      replace H := H.drew
      refine LdC.i 3 rfl (v := .map (some mp)) rfl (LdC.i 2 rfl (v := .int .i64 g) rfl (Mn.mapSet H.up5 (by omega) (.tmp 97) (.tmp 99) (.tmp 100) 72 3 (by rfl) (by kernel_rfl) (by kernel_rfl) g (key_wf (by omega) (by omega)) (.int .i64 ↑i) (by rfl) (by rfl) (by rfl) fun w H => ?_))
      have hob := map_fix (m := pa) (k := g) (v := i) H
      obtain ⟨nq3, hq3, H⟩ := hob
      refine ⟨.inl rfl, ?_⟩
      refine ret0 rfl ?_
      have hc2 : nextE l i ⟨es, la, ru, pa, cs⟩ = ⟨es, (updN la g i), (updN ru g 1), (updN pa g i), cs⟩ := by rw [nextE_no hd (show kind ≠ 13 by omega), hs2, kindE_6 h6]
      rw [hc2]
      exact ⟨rfl, EdP.iff.2 ⟨ev, _, ml, mr, mp, nq1, nq2, nq3, ps, ⟨hb1, by omega, by omega, by omega⟩, H.pick [4, 5, 2, 1, 0, 6, 7, 8] 9 (by decide)⟩⟩
     have h5 := eq_of_beq e5
     refine Cn.yes (⟨Drw.oft (.calm 0 (.calm 1 (.calm 2 (.calm 3 (.calm 4 (.calm 5 (.calm 6 (.calm 7 (.act 8 false (.act 9 false (.act 10 false (.pure 11 (.pure 12 (.act 13 true .nil)))))))))))))) (by kernel_rfl) mixed (fun w => SL w _) (H.drew.pick [0, 1, 2, 3, 4, 5, 7, 8] 9 (by decide)) ?_⟩)
     replace H := H.drew
     refine LdC.i 3 rfl (v := .slice ca cs.length cc) rfl (LdC.i 2 rfl (v := .int .i64 value) rfl (MnC.pure (.agg #[.int .i64 value, .slice none 0 0, .slice none 0 0, .int .i64 0]) (fun _ => by kernel_rfl) ?_))
     refine Nw.as #[.int .i64 value, .slice none 0 0, .slice none 0 0, .int .i64 0] 129 rfl H fun b87 w H => ?_
     refine ⟨.inr (H.pick [1, 2, 3, 4, 5, 6, 8, 9] 10 (by decide)), ?_⟩
     refine Mn.new (fun b => .slice (some ⟨b, 0, none⟩) 1 1) #[.pointer (some ⟨b87, 0, none⟩)] 77 (by kernel_rfl) H fun b88 w H => ?_
     refine ⟨.inr (H.pick [2, 3, 4, 5, 6, 7, 9, 10] 11 (by decide)), ?_⟩
     refine SL.appS H.up8 (.tmp 83) (.tmp 88) 73 (.pointer none) 8 (by rfl) (by kernel_rfl) (by kernel_rfl) (by rfl) (by decide) (by rfl) (some ⟨b88, 0, none⟩) 1 1 [.pointer (some ⟨b87, 0, none⟩)] (by rfl) (H.rdRow 0 rfl (by rfl) (by decide)) (by rfl) (by omega) (by decide) (by decide) fun g7 c7 w H => ?_
     refine ⟨.inr (H.pick [3, 4, 5, 6, 7, 8, 9, 10] 11 (by decide)), ?_⟩
     refine H.st6 (cs' := #[.slice (some ⟨lb, lo, none⟩) l.length lc, ev, .map (some ml), .map (some mr), .map (some mp), .slice (some ⟨g7, 0, none⟩) (cs.length + 1) c7]) rfl rfl rfl fun w H => ?_
     refine ⟨.inl rfl, ?_⟩
     refine ret0 rfl ?_
     have hc2 : nextE l i ⟨es, la, ru, pa, cs⟩ = ⟨es, (updN la g i), (updN ru g 1), pa, (cs ++ [⟨value.toNat, [], [], 0⟩])⟩ := by rw [nextE_no hd (show kind ≠ 13 by omega), hs2, kindE_2 h5]
     have q := H.pick [2, 9, 6, 7, 4, 3, 8, 0, 10] 11 (by decide)
     simp only [pk, nth, pkA, pkB, pkC, pkD, pkE, pkF] at q
     have hval := hv h5
     have q2 := chs_snocE hb1 (y := ⟨value.toNat, [], [], 0⟩) (u := .slice none 0 0) (v := .slice none 0 0) (by rw [show ((value.toNat : Nat) : Int) = value by omega]; exact (SL.slcNil 131 2 (SL.slcNil 131 2 q)).pick [2, 0, 1, 3, 4, 5, 6, 7, 8, 9, 10] 11 (by decide))
     have q3 := q2.pick [1, 2, 3, 4, 5, 6, 0, 7] 8 (by decide)
     simp only [pk, nth, pkA, pkB, pkC, pkD, pkE, pkF] at q3
     rw [ptrs_snoc, show cs.length + 1 = (cs ++ [(⟨value.toNat, [], [], 0⟩ : ChE)]).length by simp] at q3
     rw [hc2]
     exact ⟨rfl, EdP.iff.2 ⟨ev, _, ml, mr, mp, nq1, nq2, n3, (ps ++ [b87]), ⟨by simp [hb1], by omega, by omega, by omega⟩, q3⟩⟩
    have h4 := eq_of_beq e4
    refine Cn.yes (⟨Drw.oft (.calm 0 (.calm 1 (.calm 2 (.calm 3 (.calm 4 (.calm 5 (.calm 6 (.calm 7 (.calm 8 (.calm 9 (.calm 10 (.calm 11 (.calm 12 (.act 13 false (.pure 14 (.act 15 false (.act 16 true (.pure 17 (.act 18 true .nil))))))))))))))))))) (by kernel_rfl) mixed (fun w => SL w _) (H.drew.pick [2, 3, 4, 6, 7, 8] 9 (by decide)) ?_⟩)
    replace H := H.drew
    refine LdC.i 1 rfl (v := .map (some ml)) rfl (LdC.i 0 rfl (v := .int .i64 mate) rfl (LdC.i 1 rfl (v := .map (some mr)) rfl (LdC.i 0 rfl (v := .int .i64 mate) rfl (Mn.entry H.up1 (by omega) (.tmp 63) (.tmp 65) 72 3 (by rfl) (by kernel_rfl) (by kernel_rfl) (z := .int .i64 0) (fun _ => by kernel_rfl) mate (key_wf (by omega) (by omega)) (by rfl) (by rfl) fun v8 s8 w H => ?_))))
    refine ⟨.inr (H.pick [2, 3, 4, 6, 7, 8] 9 (by decide)), ?_⟩
    refine Mn.estore H (.tmp 63) (.tmp 74) (.tmp 72) 72 (by rfl) (.int .i64 ↑i) (by rfl) (by rfl) (by rfl) fun w H => ?_
    have hob := map_fix (m := (updN la g i)) (k := mate) (v := i) H
    obtain ⟨nq4, hq4, H⟩ := hob
    refine ⟨.inr (H.pick [2, 3, 4, 6, 7, 8] 9 (by decide)), ?_⟩
    refine Mn.entry H.up1 (by omega) (.tmp 69) (.tmp 71) 72 3 (by rfl) (by kernel_rfl) (by kernel_rfl) (z := .int .i64 0) (fun _ => by kernel_rfl) mate (key_wf (by omega) (by omega)) (by rfl) (by rfl) fun v9 s9 w H => ?_
    refine ⟨.inl rfl, ?_⟩
    refine Mn.estore H (.tmp 69) (.tmp 76) (.const (.int .i64 (2))) 72 (by rfl) (.int .i64 2) (by rfl) (by rfl) (by rfl) fun w H => ?_
    have hob := map_fix (m := (updN ru g 1)) (k := mate) (v := 2) H
    obtain ⟨nq5, hq5, H⟩ := hob
    refine ⟨.inl rfl, ?_⟩
    refine ret0 rfl ?_
    have hc2 : nextE l i ⟨es, la, ru, pa, cs⟩ = ⟨es, (updN (updN la g i) mate i), (updN (updN ru g 1) mate 2), pa, cs⟩ := by rw [nextE_no hd (show kind ≠ 13 by omega), hs2, kindE_1 h4]
    rw [hc2]
    exact ⟨rfl, EdP.iff.2 ⟨ev, _, ml, mr, mp, nq4, nq5, n3, ps, ⟨hb1, by omega, by omega, by omega⟩, H.pick [3, 4, 1, 0, 5, 6, 7, 8] 9 (by decide)⟩⟩
   have h1 := eq_of_beq e1
   refine Cn.yes (ret0 rfl ?_)
   have hc2 : nextE l i ⟨es, la, ru, pa, cs⟩ = ⟨es, la, ru, pa, cs⟩ := nextE_13 hd h1
   rw [hc2]
   exact ⟨rfl, EdP.iff.2 ⟨ev, _, ml, mr, mp, n1, n2, n3, ps, ⟨hb1, by omega, by omega, by omega⟩, H.pick [1, 2, 3, 4, 5, 6, 7, 8] 9 (by decide)⟩⟩
  | some f =>
   have hs2 : ownE i ⟨kind, g, chan, case_, value, mate, send, ok⟩ (fromE i ⟨kind, g, chan, case_, value, mate, send, ok⟩ ⟨es, la, ru, pa, cs⟩) = ⟨putL es f i ((ru g).getD 0), updN la g i, updN ru g 1, pa, cs⟩ := by unfold ownE fromE; dsimp only; rw [hla]
   refine calls_den (args := [_, _]) Tryz.func37 rfl (Nat.le_of_ble_eq_true (by kernel_rfl)) (by kernel_rfl) ?_
   refine ⟨H.ldi 0 rfl (v := .slice (some ⟨lb, lo, none⟩) l.length lc) rfl ?_⟩
   refine Ix.at i 8 (by kernel_rfl) (rfl) (hi) ?_
   refine H.ldE 7 rfl hA i 0 he (v := .int .i64 kind) rfl (H.ldE 7 rfl hA i 1 he (v := .int .i64 g) rfl (H.ldE 7 rfl hA i 2 he (v := .int .i64 chan) rfl (H.ldE 7 rfl hA i 3 he (v := .int .i64 case_) rfl (H.ldE 7 rfl hA i 4 he (v := .int .i64 value) rfl (H.ldE 7 rfl hA i 5 he (v := .int .i64 mate) rfl ?_)))))
   refine H.ldE 7 rfl hA i 6 he (v := .bool send) rfl (H.ldE 7 rfl hA i 7 he (v := .bool ok) rfl (Nw.as #[.int .i64 0, .int .i64 0, .int .i64 0, .int .i64 0, .int .i64 0, .int .i64 0, .bool false, .bool false] 53 rfl H fun b4 w H => ?_))
   refine SL.stEv H rfl rfl fun w H => ?_
   refine ⟨H.ldi 0 rfl (v := .int .i64 kind) rfl ?_⟩
   refine BB.vr fun q1 e1 => ?_
   cases q1
   ·have h1 := beq_eq_false_iff_ne.1 e1
    refine Cn.no (⟨Drw.of [(0, true), (1, true), (2, true), (3, true), (4, true), (5, true), (6, true), (7, true), (8, true), (9, true), (10, true), (11, true)] (by kernel_rfl) mixed (fun w => SL w _) H.drew ?_⟩)
    replace H := H.drew
    refine LdC.i 1 rfl (v := .map (some ml)) rfl (LdC.i 0 rfl (v := .int .i64 g) rfl (MnC.lookOk 3 rfl (.tmp 21) (.tmp 23) 72 3 (by rfl) (by kernel_rfl) (by kernel_rfl) (z := .int .i64 0) (fun _ => by kernel_rfl) g (key_wf (by omega) (by omega)) (by rfl) (by rfl) (.int .i64 ↑f) ((mapI_some hla).1) true ((mapI_some hla).2) ?_))
    refine ⟨Cn.yes ?_⟩
    refine ⟨Drw.of [(0, true), (1, true), (2, true), (3, true), (4, true), (5, true), (6, true), (7, true), (8, true), (9, true), (10, false)] (by kernel_rfl) mixed (fun w => SL w _) H.drew ?_⟩
    replace H := H.drew
    refine LdC.i 1 rfl (v := .map (some mr)) rfl (LdC.i 0 rfl (v := .int .i64 g) rfl (MnC.lookV 4 rfl (.tmp 34) (.tmp 36) 72 3 (by rfl) (by kernel_rfl) (by kernel_rfl) (z := .int .i64 0) (fun _ => by kernel_rfl) g (key_wf (by omega) (by omega)) (by rfl) (by rfl) (.int .i64 (↑((ru g).getD 0))) (mapI_get _ _) ?_))
    have h1 := H.pick [1, 2, 0, 3, 4, 5, 6, 7, 8] 9 (by decide)
    simp only [pk, nth, pkA, pkB, pkC, pkD, pkE, pkF] at h1
    refine Cl.by (by kernel_rfl) (e_edge f i ((ru g).getD 0) (by have := putL_len es f i ((ru g).getD 0); omega) h1) ?_
    rintro _ w ⟨rfl, ev1, H⟩
    refine ⟨_, rfl, ?_⟩
    replace H := H.pick [2, 0, 1, 3, 4, 5, 6, 7, 8] 9 (by decide)
    simp only [pk, nth, pkA, pkB, pkC, pkD, pkE, pkF] at H
    refine ⟨.inl rfl, ?_⟩
    refine ⟨Drw.oft (.calm 0 (.calm 1 (.calm 2 (.calm 3 (.calm 4 (.calm 5 (.calm 6 (.calm 7 (.calm 8 (.calm 9 (.calm 10 (.calm 11 (.calm 12 (.act 13 false (.pure 14 (.act 15 false (.act 16 true (.pure 17 (.act 18 true .nil))))))))))))))))))) (by kernel_rfl) mixed (fun w => SL w _) (H.drew.pick [0, 1, 2, 6, 7, 8] 9 (by decide)) ?_⟩
    replace H := H.drew
    refine LdC.i 1 rfl (v := .map (some ml)) rfl (LdC.i 0 rfl (v := .int .i64 g) rfl (LdC.i 1 rfl (v := .map (some mr)) rfl (LdC.i 0 rfl (v := .int .i64 g) rfl (Mn.entry H.up3 (by omega) (.tmp 42) (.tmp 44) 72 3 (by rfl) (by kernel_rfl) (by kernel_rfl) (z := .int .i64 0) (fun _ => by kernel_rfl) g (key_wf (by omega) (by omega)) (by rfl) (by rfl) fun v2 s2 w H => ?_))))
    refine ⟨.inr (H.pick [1, 2, 3, 6, 7, 8] 9 (by decide)), ?_⟩
    refine Mn.estore H (.tmp 42) (.tmp 53) (.tmp 51) 72 (by rfl) (.int .i64 ↑i) (by rfl) (by rfl) (by rfl) fun w H => ?_
    have hob := map_fix (m := la) (k := g) (v := i) H
    obtain ⟨nq1, hq1, H⟩ := hob
    refine ⟨.inr (H.pick [1, 2, 3, 6, 7, 8] 9 (by decide)), ?_⟩
    refine Mn.entry H.up4 (by omega) (.tmp 48) (.tmp 50) 72 3 (by rfl) (by kernel_rfl) (by kernel_rfl) (z := .int .i64 0) (fun _ => by kernel_rfl) g (key_wf (by omega) (by omega)) (by rfl) (by rfl) fun v3 s3 w H => ?_
    refine ⟨.inl rfl, ?_⟩
    refine Mn.estore H (.tmp 48) (.tmp 55) (.const (.int .i64 (1))) 72 (by rfl) (.int .i64 1) (by rfl) (by rfl) (by rfl) fun w H => ?_
    have hob := map_fix (m := ru) (k := g) (v := 1) H
    obtain ⟨nq2, hq2, H⟩ := hob
    refine ⟨.inl rfl, ?_⟩
    refine ⟨H.ldi 2 rfl (v := .int .i64 kind) rfl ?_⟩
    refine ⟨⟨BB.vr fun q4 e4 => ?_⟩⟩
    cases q4
    ·have h4 := beq_eq_false_iff_ne.1 e4
     refine Cn.no (⟨BB.vr fun q5 e5 => ?_⟩)
     cases q5
     ·have h5 := beq_eq_false_iff_ne.1 e5
      refine Cn.no (⟨BB.vr fun q6 e6 => ?_⟩)
      cases q6
      ·have h6 := beq_eq_false_iff_ne.1 e6
       refine Cn.no (⟨BB.no (beq_eq_false_iff_ne.2 (by omega)) ?_⟩)
       refine Cn.no (⟨BB.no (beq_eq_false_iff_ne.2 (by omega)) ?_⟩)
       refine Cn.no (⟨BB.no (beq_eq_false_iff_ne.2 (by omega)) ?_⟩)
       refine Cn.no (⟨BB.no (beq_eq_false_iff_ne.2 (by omega)) ?_⟩)
       refine Cn.no (ret0 rfl ?_)
       have hc2 : nextE l i ⟨es, la, ru, pa, cs⟩ = ⟨(putL es f i ((ru g).getD 0)), (updN la g i), (updN ru g 1), pa, cs⟩ := by rw [nextE_no hd (show kind ≠ 13 by omega), hs2, kindE_no1 (show kind ≠ 1 ∧ kind ≠ 2 ∧ kind ≠ 6 ∧ kind ≠ 5 ∧ kind ≠ 3 ∧ kind ≠ 4 ∧ kind ≠ 7 by omega)]
       rw [hc2]
       exact ⟨rfl, EdP.iff.2 ⟨ev1, _, ml, mr, mp, nq1, nq2, n3, ps, ⟨hb1, by omega, by omega, by omega⟩, H.pick [3, 4, 1, 0, 5, 6, 7, 8] 9 (by decide)⟩⟩
      have h6 := eq_of_beq e6
      refine Cn.yes (⟨Drw.of [(0, true), (1, true), (2, true), (3, true), (4, true), (5, true), (6, true), (7, false)] (by kernel_rfl) mixed (fun w => SL w _) H.drew ?_⟩)
      replace H := H.drew
      refine LdC.i 3 rfl (v := .map (some mp)) rfl (LdC.i 2 rfl (v := .int .i64 g) rfl (Mn.mapSet H.up5 (by omega) (.tmp 97) (.tmp 99) (.tmp 100) 72 3 (by rfl) (by kernel_rfl) (by kernel_rfl) g (key_wf (by omega) (by omega)) (.int .i64 ↑i) (by rfl) (by rfl) (by rfl) fun w H => ?_))
      have hob := map_fix (m := pa) (k := g) (v := i) H
      obtain ⟨nq3, hq3, H⟩ := hob
      refine ⟨.inl rfl, ?_⟩
      refine ret0 rfl ?_
      have hc2 : nextE l i ⟨es, la, ru, pa, cs⟩ = ⟨(putL es f i ((ru g).getD 0)), (updN la g i), (updN ru g 1), (updN pa g i), cs⟩ := by rw [nextE_no hd (show kind ≠ 13 by omega), hs2, kindE_6 h6]
      rw [hc2]
      exact ⟨rfl, EdP.iff.2 ⟨ev1, _, ml, mr, mp, nq1, nq2, nq3, ps, ⟨hb1, by omega, by omega, by omega⟩, H.pick [4, 5, 2, 1, 0, 6, 7, 8] 9 (by decide)⟩⟩
     have h5 := eq_of_beq e5
     refine Cn.yes (⟨Drw.oft (.calm 0 (.calm 1 (.calm 2 (.calm 3 (.calm 4 (.calm 5 (.calm 6 (.calm 7 (.act 8 false (.act 9 false (.act 10 false (.pure 11 (.pure 12 (.act 13 true .nil)))))))))))))) (by kernel_rfl) mixed (fun w => SL w _) (H.drew.pick [0, 1, 2, 3, 4, 5, 7, 8] 9 (by decide)) ?_⟩)
     replace H := H.drew
     refine LdC.i 3 rfl (v := .slice ca cs.length cc) rfl (LdC.i 2 rfl (v := .int .i64 value) rfl (MnC.pure (.agg #[.int .i64 value, .slice none 0 0, .slice none 0 0, .int .i64 0]) (fun _ => by kernel_rfl) ?_))
     refine Nw.as #[.int .i64 value, .slice none 0 0, .slice none 0 0, .int .i64 0] 129 rfl H fun b87 w H => ?_
     refine ⟨.inr (H.pick [1, 2, 3, 4, 5, 6, 8, 9] 10 (by decide)), ?_⟩
     refine Mn.new (fun b => .slice (some ⟨b, 0, none⟩) 1 1) #[.pointer (some ⟨b87, 0, none⟩)] 77 (by kernel_rfl) H fun b88 w H => ?_
     refine ⟨.inr (H.pick [2, 3, 4, 5, 6, 7, 9, 10] 11 (by decide)), ?_⟩
     refine SL.appS H.up8 (.tmp 83) (.tmp 88) 73 (.pointer none) 8 (by rfl) (by kernel_rfl) (by kernel_rfl) (by rfl) (by decide) (by rfl) (some ⟨b88, 0, none⟩) 1 1 [.pointer (some ⟨b87, 0, none⟩)] (by rfl) (H.rdRow 0 rfl (by rfl) (by decide)) (by rfl) (by omega) (by decide) (by decide) fun g7 c7 w H => ?_
     refine ⟨.inr (H.pick [3, 4, 5, 6, 7, 8, 9, 10] 11 (by decide)), ?_⟩
     refine H.st6 (cs' := #[.slice (some ⟨lb, lo, none⟩) l.length lc, ev1, .map (some ml), .map (some mr), .map (some mp), .slice (some ⟨g7, 0, none⟩) (cs.length + 1) c7]) rfl rfl rfl fun w H => ?_
     refine ⟨.inl rfl, ?_⟩
     refine ret0 rfl ?_
     have hc2 : nextE l i ⟨es, la, ru, pa, cs⟩ = ⟨(putL es f i ((ru g).getD 0)), (updN la g i), (updN ru g 1), pa, (cs ++ [⟨value.toNat, [], [], 0⟩])⟩ := by rw [nextE_no hd (show kind ≠ 13 by omega), hs2, kindE_2 h5]
     have q := H.pick [2, 9, 6, 7, 4, 3, 8, 0, 10] 11 (by decide)
     simp only [pk, nth, pkA, pkB, pkC, pkD, pkE, pkF] at q
     have hval := hv h5
     have q2 := chs_snocE hb1 (y := ⟨value.toNat, [], [], 0⟩) (u := .slice none 0 0) (v := .slice none 0 0) (by rw [show ((value.toNat : Nat) : Int) = value by omega]; exact (SL.slcNil 131 2 (SL.slcNil 131 2 q)).pick [2, 0, 1, 3, 4, 5, 6, 7, 8, 9, 10] 11 (by decide))
     have q3 := q2.pick [1, 2, 3, 4, 5, 6, 0, 7] 8 (by decide)
     simp only [pk, nth, pkA, pkB, pkC, pkD, pkE, pkF] at q3
     rw [ptrs_snoc, show cs.length + 1 = (cs ++ [(⟨value.toNat, [], [], 0⟩ : ChE)]).length by simp] at q3
     rw [hc2]
     exact ⟨rfl, EdP.iff.2 ⟨ev1, _, ml, mr, mp, nq1, nq2, n3, (ps ++ [b87]), ⟨by simp [hb1], by omega, by omega, by omega⟩, q3⟩⟩
    have h4 := eq_of_beq e4
    refine Cn.yes (⟨Drw.oft (.calm 0 (.calm 1 (.calm 2 (.calm 3 (.calm 4 (.calm 5 (.calm 6 (.calm 7 (.calm 8 (.calm 9 (.calm 10 (.calm 11 (.calm 12 (.act 13 false (.pure 14 (.act 15 false (.act 16 true (.pure 17 (.act 18 true .nil))))))))))))))))))) (by kernel_rfl) mixed (fun w => SL w _) (H.drew.pick [2, 3, 4, 6, 7, 8] 9 (by decide)) ?_⟩)
    replace H := H.drew
    refine LdC.i 1 rfl (v := .map (some ml)) rfl (LdC.i 0 rfl (v := .int .i64 mate) rfl (LdC.i 1 rfl (v := .map (some mr)) rfl (LdC.i 0 rfl (v := .int .i64 mate) rfl (Mn.entry H.up1 (by omega) (.tmp 63) (.tmp 65) 72 3 (by rfl) (by kernel_rfl) (by kernel_rfl) (z := .int .i64 0) (fun _ => by kernel_rfl) mate (key_wf (by omega) (by omega)) (by rfl) (by rfl) fun v8 s8 w H => ?_))))
    refine ⟨.inr (H.pick [2, 3, 4, 6, 7, 8] 9 (by decide)), ?_⟩
    refine Mn.estore H (.tmp 63) (.tmp 74) (.tmp 72) 72 (by rfl) (.int .i64 ↑i) (by rfl) (by rfl) (by rfl) fun w H => ?_
    have hob := map_fix (m := (updN la g i)) (k := mate) (v := i) H
    obtain ⟨nq4, hq4, H⟩ := hob
    refine ⟨.inr (H.pick [2, 3, 4, 6, 7, 8] 9 (by decide)), ?_⟩
    refine Mn.entry H.up1 (by omega) (.tmp 69) (.tmp 71) 72 3 (by rfl) (by kernel_rfl) (by kernel_rfl) (z := .int .i64 0) (fun _ => by kernel_rfl) mate (key_wf (by omega) (by omega)) (by rfl) (by rfl) fun v9 s9 w H => ?_
    refine ⟨.inl rfl, ?_⟩
    refine Mn.estore H (.tmp 69) (.tmp 76) (.const (.int .i64 (2))) 72 (by rfl) (.int .i64 2) (by rfl) (by rfl) (by rfl) fun w H => ?_
    have hob := map_fix (m := (updN ru g 1)) (k := mate) (v := 2) H
    obtain ⟨nq5, hq5, H⟩ := hob
    refine ⟨.inl rfl, ?_⟩
    refine ret0 rfl ?_
    have hc2 : nextE l i ⟨es, la, ru, pa, cs⟩ = ⟨(putL es f i ((ru g).getD 0)), (updN (updN la g i) mate i), (updN (updN ru g 1) mate 2), pa, cs⟩ := by rw [nextE_no hd (show kind ≠ 13 by omega), hs2, kindE_1 h4]
    rw [hc2]
    exact ⟨rfl, EdP.iff.2 ⟨ev1, _, ml, mr, mp, nq4, nq5, n3, ps, ⟨hb1, by omega, by omega, by omega⟩, H.pick [3, 4, 1, 0, 5, 6, 7, 8] 9 (by decide)⟩⟩
   have h1 := eq_of_beq e1
   refine Cn.yes (ret0 rfl ?_)
   have hc2 : nextE l i ⟨es, la, ru, pa, cs⟩ = ⟨es, la, ru, pa, cs⟩ := nextE_13 hd h1
   rw [hc2]
   exact ⟨rfl, EdP.iff.2 ⟨ev, _, ml, mr, mp, n1, n2, n3, ps, ⟨hb1, by omega, by omega, by omega⟩, H.pick [1, 2, 3, 4, 5, 6, 7, 8] 9 (by decide)⟩⟩
end Go.Proofs.YtoamjodmidbmbaaGreatDoor
