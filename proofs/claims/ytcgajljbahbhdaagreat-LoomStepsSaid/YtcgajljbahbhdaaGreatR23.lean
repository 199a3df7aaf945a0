/- Texts of the proof, several in one file: LawE. -/
import Derived.Test.YtcgajljbahbhdaaGreatR22
import Derived.Test.YtcgajljbahbhdaaGreatR20
namespace Go.Proofs.YtcgajljbahbhdaaGreat
set_option linter.unusedVariables false
set_option linter.unusedSimpArgs false
open Go.RowKit
set_option maxRecDepth 100000
section
variable {w : World} {F L : List Piece} {A C : Piece} {xa ya : Option Addr} {xc yc n : Nat} {l : List Ev}
theorem l_eventsN (hn : l.length = n) (hl : n ≤ 1000000) (hA : Reader A 8 xa n (l.flatMap Ev.cells)) (hB : Reader C 8 ya n (l.flatMap Ev.cells)) (H : SL w (A :: C :: F)) : Calls Tryz.prog 14 #[.slice xa n xc, .slice ya n yc] w fun o w' => o = .returned (.bool true) ∧ SL w' (A :: C :: F) := by
 subst hn
 exact l_events hl hA hB H
theorem stateF_full {L : List One} {k : Nat} {z : One} (h : L[k]? = some z) : stateF L (k : Int) = (z.state, true) := by
 unfold stateF
 rw [if_pos (Int.natCast_nonneg k), Int.toNat_natCast, h]
theorem who_neg {s : ScrM} {x : LmM} (hv : verL s x = 0) (h0 : whoL s x < 0) : whoL s x = -1 := by
 unfold whoL at h0 ⊢
 split
 ·rfl
 ·rename_i hz
  rw [if_neg hz] at h0
  exfalso
  obtain ⟨_, hvo, _⟩ := ver_zero hv
  have hab := ablePos hvo
  have hl : (s.plan.getD x.p 0).toNat % (ableF x.crew).length < (ableF x.crew).length := Nat.mod_lt _ hab
  rw [List.getD_eq_getElem?_getD, List.getElem?_eq_getElem hl] at h0
  have := ableF_in x.crew x.crew.length _ (List.getElem_mem hl)
  simp only [Option.getD_some] at h0
  omega
theorem MnC.cutS {te sz n lo c : Nat} {a : Option Addr} {xs : List Value} {σ : Fr} {op : Oper} {K : Value → Prop} (hnc : n ≤ c) (i : Nat) (hi : L[i]? = some (Slc te sz (.slice a n c) n xs)) (x l : Operand) (t : Nat) (hop : op.op = .slice t x (some l) none none) (ht : Tryz.prog.underlying t = some (.slice te)) (hsz : (Tryz.prog.info? te).map (·.size) = some sz)
  (hx : ev σ x = .slice a n c) (hl : ev σ l = .int .i64 (lo : Int)) (hlo : lo ≤ n) (k : ∀ a' c', Reader (Slc te sz (.slice a n c) n xs) sz a' (n - lo) (xs.drop (lo * sz)) → K (.slice a' (n - lo) c')) : MnC Tryz.prog (fun w => SL w L) σ op K := by
 refine MnC.pure _ (fun w => run_cut x l hop ht hsz hlo hnc hx hl w) (k _ _ ?_)
 intro S w' hS
 have hS1 := hS.1
 obtain ⟨⟨hlen, h2⟩, _⟩ := hS
 rcases h2 with ⟨h2, h0⟩ | ⟨g, cap, cur, h2, _, hg, hnc', hcm, hcs, htake⟩
 ·subst h0
  refine ⟨by rw [List.length_drop, hlen]; simp, by rw [Nat.zero_sub]; exact Nat.zero_le _, fun hn => by omega⟩
 ·injection h2 with e1 e2 e3
  subst e1 e3
  refine ⟨by rw [List.length_drop, hlen, Nat.sub_mul], by omega, fun hn => ?_⟩
  have hc1 : c ≠ lo := by omega
  rw [if_neg hc1]
  refine ⟨g, 0 + lo * sz, by simp only [Option.map_some, Addr_add], fun j u hu => ?_⟩
  rw [List.getElem?_drop] at hu
  have := own_cell hS1 hu
  rw [Nat.zero_add]
  exact this
end
set_option maxHeartbeats 40000000 in
theorem l_steps {w : World} {F : List Piece} {A : Piece} {pa la da : Option Addr} {pc lc dc : Nat} {t m : Int} {X : List ProgX} {pl dr : List Int} (hX : 0 < X.length → ∃ b off, pa = some ⟨b, off, none⟩ ∧ ScrA A b off X) (hL : Reader A 1 la pl.length (ints pl)) (hD : Reader A 1 da dr.length (ints dr)) (H : SL w (A :: F)) : Calls Tryz.prog 7 #[.agg #[.int .i64 t, .int .i64 m, .slice pa X.length pc, .slice la pl.length lc, .slice da dr.length dc]] w fun o w' => o = .returned (.bool true) ∧ SL w' (A :: F) := by
 by_cases hck : checkE ⟨t, m, progsM X, pl, dr⟩ = 0
 ·have hr := checkE_right hck
  have hn1 : 1 ≤ X.length := by have := hr.n1; simpa [progsM] using this
  have hgp : ∀ z ∈ pl, -1 ≤ z ∧ z ≤ 1000 := fun z hz => ⟨hr.p0 z hz, hr.p1 z hz⟩
  have hgd : ∀ z ∈ dr, 0 ≤ z ∧ z ≤ 1000 := checkE_draws hck
  have hpl : pl.length ≤ 200 := hr.pl
  have hdl : dr.length ≤ 64 := hr.dl
  obtain ⟨pb, po, rfl, hXA⟩ := hX (by omega)
  refine calls_den (args := [_]) Tryz.func7 rfl (Nat.le_of_ble_eq_true (by kernel_rfl)) (by kernel_rfl) ?_
  refine ⟨?_⟩
  refine Nw.as #[.int .i64 t, .int .i64 m, .slice (some ⟨pb, po, none⟩) X.length pc, .slice la pl.length lc, .slice da dr.length dc] 25 rfl H fun b1 w H => ?_
  refine ⟨?_⟩
  refine H.ldi 0 rfl (v := .int .i64 t) rfl ?_
  refine H.ldi 0 rfl (v := .int .i64 m) rfl ?_
  refine H.ldi 0 rfl (v := .slice (some ⟨pb, po, none⟩) X.length pc) rfl ?_
  refine H.ldi 0 rfl (v := .slice la pl.length lc) rfl ?_
  refine H.ldi 0 rfl (v := .slice da dr.length dc) rfl ?_
  have h1 := H.pick [1, 0] 2 (by decide)
  simp only [pk, nth, pkA, pkB, pkC, pkD, pkE, pkF] at h1
  refine Cl.by (by kernel_rfl) (l_large (fun _ => ⟨pb, po, rfl, hXA⟩) hL hD h1) ?_
  rintro _ w ⟨bl, rfl, H⟩
  refine ⟨_, rfl, ?_⟩
  replace H := H.pick [1, 0] 2 (by decide)
  simp only [pk, nth, pkA, pkB, pkC, pkD, pkE, pkF] at H
  refine BB.k ?_
  cases bl
  ·skip
   refine Cn.no ?_
   refine ⟨?_⟩
   refine H.ldi 0 rfl (v := .int .i64 t) rfl ?_
   refine H.ldi 0 rfl (v := .int .i64 m) rfl ?_
   refine H.ldi 0 rfl (v := .slice (some ⟨pb, po, none⟩) X.length pc) rfl ?_
   refine H.ldi 0 rfl (v := .slice la pl.length lc) rfl ?_
   refine H.ldi 0 rfl (v := .slice da dr.length dc) rfl ?_
   have h1 := H.pick [1, 0] 2 (by decide)
   simp only [pk, nth, pkA, pkB, pkC, pkD, pkE, pkF] at h1
   refine Cl.by (by kernel_rfl) (p_new_ok (fun _ => ⟨pb, po, rfl, hXA⟩) hL hD hck h1) ?_
   rintro _ w ⟨lm, Z, vb, vc, la', lc', da', dc', hZ, hzl, hgood, rfl, H⟩
   refine ⟨_, rfl, ?_⟩
   replace H := H.pick [0, 1, 3, 2] 4 (by decide)
   simp only [pk, nth, pkA, pkB, pkC, pkD, pkE, pkF] at H
   have hXZ := scrP_A (vc := vc) hgood (rfl : some (⟨vb, 0, none⟩ : Addr) = _)
   refine ⟨?_⟩
   refine H.ldi 2 rfl (v := .int .i64 t) rfl ?_
   refine H.ldi 2 rfl (v := .int .i64 m) rfl ?_
   refine H.ldi 2 rfl (v := .slice (some ⟨pb, po, none⟩) X.length pc) rfl ?_
   refine H.ldi 2 rfl (v := .slice la pl.length lc) rfl ?_
   refine H.ldi 2 rfl (v := .slice da dr.length dc) rfl ?_
   have h1 := H.pick [3, 0, 1, 2] 4 (by decide)
   simp only [pk, nth, pkA, pkB, pkC, pkD, pkE, pkF] at h1
   refine Cl.by (by kernel_rfl) (r_new13 (fun _ => ⟨pb, po, rfl, hXA⟩) hL hD hgp hgd hpl hdl hck h1) ?_
   rintro _ w ⟨rl, rfl, H⟩
   refine ⟨_, rfl, ?_⟩
   replace H := H.pick [0, 2, 3, 4, 1] 5 (by decide)
   simp only [pk, nth, pkA, pkB, pkC, pkD, pkE, pkF] at H
   refine ⟨?_⟩
   refine BB.no rfl ?_
   refine BB.no rfl ?_
   refine BB.no rfl ?_
   refine BB.no rfl ?_
   refine Cn.no ?_
   refine ⟨?_⟩
   refine BB.no rfl ?_
   refine Cn.no ?_
   refine ⟨?_⟩
   refine ⟨?_⟩
   refine den.loop (ι := Nat) [(2, 2), (7, 16), (43, 161)] (by kernel_rfl) (fun i => [(7, .int .i64 ↑i)]) (fun i w => i ≤ pl.length + 1 ∧ SL w (row b1 #[.int .i64 t, .int .i64 m, .slice (some ⟨pb, po, none⟩) X.length pc, .slice la pl.length lc, .slice da dr.length dc] 25 :: LmP lm ⟨t, m, progsM X, pl, dr⟩ ⟨t, m, .slice (some ⟨vb, 0, none⟩) Z.length vc, .slice la' pl.length lc', .slice da' dr.length dc'⟩ (runL ⟨t, m, progsM X, pl, dr⟩ i) :: scrP (some ⟨vb, 0, none⟩) vc Z :: RlP rl ⟨t, m, .slice (some ⟨pb, po, none⟩) X.length pc, .slice la pl.length lc, .slice da dr.length dc⟩ (runL ⟨t, m, progsM X, pl, dr⟩ i) :: A :: F)) (fun i => pl.length + 1 - i) 0 ⟨rfl, trivial⟩ ⟨Nat.zero_le _, (H.pick [3, 1, 2, 0, 4] 5 (by decide))⟩ ?_
   rintro i s w ⟨hc, H⟩
   have hk := Lk.run (s := ⟨t, m, progsM X, pl, dr⟩) hr.ok (np := X.length) (by unfold progsM; rw [List.length_map]) hn1 i
   have hd : (runL ⟨t, m, progsM X, pl, dr⟩ i).d ≤ 1000 := Nat.le_trans (run_d ⟨t, m, progsM X, pl, dr⟩ i) (show dr.length ≤ 1000 by omega)
   have hob : ∃ x, runL ⟨t, m, progsM X, pl, dr⟩ i = x := ⟨_, rfl⟩
   obtain ⟨x, hx⟩ := hob
   rw [hx] at H hk hd
   have hob := eight hk.n8
   obtain ⟨n0, n1, n2, n3, n4, n5, n6, n7, hn⟩ := hob
   have hi' : i ≤ pl.length ∨ i = pl.length + 1 := by omega
   rcases hi' with hi | hi
   ·skip
    by_cases hv : verL ⟨t, m, progsM X, pl, dr⟩ x = 0
    ·skip
     by_cases h0 : whoL ⟨t, m, progsM X, pl, dr⟩ x < 0
     ·skip
      have hob := ver_zero hv
      obtain ⟨_, hvo, hvp⟩ := hob
      have hvp' : x.p < pl.length := hvp
      have hob := H.addrR 4 rfl hL (by omega)
      obtain ⟨bl, ol, rfl⟩ := hob
      have hIA := IntA.of hL
      have hab := ablePos hvo
      have hwm : whoL ⟨t, m, progsM X, pl, dr⟩ x = -1 := who_neg hv h0
      refine ⟨?_⟩
      refine H.ldi 0 rfl (v := .slice (some ⟨bl, ol, none⟩) pl.length lc) rfl ?_
      refine BB.yes (decide_eq_true (by omega)) ?_
      refine Cn.yes ?_
      refine ⟨?_⟩
      refine ⟨?_⟩
      have h1 := H.pick [1, 0, 2, 3, 4] 5 (by decide)
      simp only [pk, nth, pkA, pkB, pkC, pkD, pkE, pkF] at h1
      refine Cl.sl (by kernel_rfl) (p_next_compact hn hk hv hr.p0 h0 h1) fun w H => ?_
      replace H := H.pick [1, 0, 2, 3, 4] 5 (by decide)
      simp only [pk, nth, pkA, pkB, pkC, pkD, pkE, pkF] at H
      refine Nw.as #[.int .i64 0, .int .i64 0, .int .i64 0, .slice none 0 0, .bool false] 44 rfl H fun b9 w H => ?_
      refine H.st0 (cs' := #[.int .i64 0, .int .i64 0, .int .i64 0, .slice none 0 0, .bool false]) rfl rfl rfl fun w H => ?_
      refine H.st0 (cs' := #[.int .i64 0, .int .i64 0, .int .i64 0, .slice none 0 0, .bool false]) rfl rfl rfl fun w H => ?_
      refine H.st0 (cs' := #[.int .i64 0, .int .i64 0, .int .i64 0, .slice none 0 0, .bool false]) rfl rfl rfl fun w H => ?_
      refine H.st0 (cs' := #[.int .i64 0, .int .i64 0, .int .i64 0, .slice none 0 0, .bool false]) rfl rfl rfl fun w H => ?_
      refine H.st0 (cs' := #[.int .i64 0, .int .i64 0, .int .i64 0, .slice none 0 0, .bool false]) rfl rfl rfl fun w H => ?_
      refine ⟨?_⟩
      have h1 := H.pick [4, 0, 1, 2, 3, 5] 6 (by decide)
      simp only [pk, nth, pkA, pkB, pkC, pkD, pkE, pkF] at h1
      refine Cl.sl (by kernel_rfl) (r_verdict (s := ⟨t, m, progsM X, pl, dr⟩) (x := x) rfl h1) fun w H => ?_
      replace H := H.pick [1, 2, 3, 4, 0, 5] 6 (by decide)
      simp only [pk, nth, pkA, pkB, pkC, pkD, pkE, pkF] at H
      refine BB.yes (beq_iff_eq.2 hv) ?_
      refine BB.no rfl ?_
      have h1 := H.pick [2, 0, 1, 3, 4, 5] 6 (by decide)
      simp only [pk, nth, pkA, pkB, pkC, pkD, pkE, pkF] at h1
      refine Cl.sl (by kernel_rfl) (p_verdict hn hk h1) fun w H => ?_
      replace H := H.pick [1, 2, 0, 3, 4, 5] 6 (by decide)
      simp only [pk, nth, pkA, pkB, pkC, pkD, pkE, pkF] at H
      have h1 := H.pick [4, 0, 1, 2, 3, 5] 6 (by decide)
      simp only [pk, nth, pkA, pkB, pkC, pkD, pkE, pkF] at h1
      refine Cl.sl (by kernel_rfl) (r_verdict (s := ⟨t, m, progsM X, pl, dr⟩) (x := x) rfl h1) fun w H => ?_
      replace H := H.pick [1, 2, 3, 4, 0, 5] 6 (by decide)
      simp only [pk, nth, pkA, pkB, pkC, pkD, pkE, pkF] at H
      refine BB.no (bne_self_eq_false _) ?_
      refine Cn.no ?_
      refine ⟨?_⟩
      refine Cn.yes ?_
      refine ⟨?_⟩
      have h1 := H.pick [4, 5, 0, 1, 2, 3] 6 (by decide)
      simp only [pk, nth, pkA, pkB, pkC, pkD, pkE, pkF] at h1
      have hq := r_who (s := ⟨t, m, progsM X, pl, dr⟩) (x := x) rfl hIA hvp' (fun z hz => hr.p0 z hz) hk.cl hab h1
      rw [hwm] at hq
      refine Cl.sl (by kernel_rfl) hq fun w H => ?_
      replace H := H.pick [2, 3, 4, 5, 0, 1] 6 (by decide)
      simp only [pk, nth, pkA, pkB, pkC, pkD, pkE, pkF] at H
      refine ⟨?_⟩
      refine Drw.oft (.calm 0 (.calm 1 (.calm 2 (.calm 3 (.calm 4 (.calm 5 (.calm 6 (.calm 7 (.calm 8 (.calm 9 (.act 10 false (.act 11 true (.pure 12 (.pure 13 (.pure 14 (.pure 15 (.pure 16 (.act 17 true (.pure 18 (.two 19 true (.act 20 true (.act 21 true (.pure 22 (.pure 23 (.pure 24 .nil))))) 20 true (.act 19 true (.act 21 true (.pure 22 (.pure 23 (.pure 24 .nil))))))))))))))))))))))))) (by kernel_rfl) mixed (fun w => SL w _) H.drew ?_
      replace H := H.drew
      refine BB.no rfl ?_
      refine BB.no rfl ?_
      refine BB.yes rfl ?_
      refine ⟨.inl rfl, ?_⟩
      refine ⟨?_, ?_⟩
      ·skip
       refine H.ldi 0 rfl (v := .int .i64 0) rfl ?_
       refine H.ldi 0 rfl (v := .int .i64 0) rfl ?_
       refine H.ldi 0 rfl (v := .int .i64 0) rfl ?_
       refine H.ldi 0 rfl (v := .slice none 0 0) rfl ?_
       refine H.ldi 0 rfl (v := .bool false) rfl ?_
       refine ⟨.inl rfl, ?_⟩
       refine Mn.pure (.agg #[.int .i64 0, .int .i64 0, .int .i64 0, .slice none 0 0, .bool false]) (by kernel_rfl) ?_
       refine ⟨.inl rfl, ?_⟩
       refine Cl.sl (by kernel_rfl) (l_opZ H) fun w H => ?_
       refine BB.yes rfl ?_
       refine ⟨.inl rfl, ?_⟩
       refine BB.no rfl ?_
       refine Cn.no ?_
       have H0 := H.pick [4, 0, 1, 2, 3, 5] 6 (by decide)
       simp only [pk, nth, pkA, pkB, pkC, pkD, pkE, pkF] at H0
       replace H := H0
       have hob := rl_open (x := x) hn H
       obtain ⟨hb1, crb1, cha1, chc1, ta1, tc1, ps1, hl1, H⟩ := hob
       refine ⟨?_⟩
       refine H.ldi 0 rfl (v := .slice ta1 x.tr.length tc1) rfl ?_
       have H0 := H
       replace H := rl_shut (x := x) hl1 rfl hn H0
       refine ⟨?_⟩
       have h1 := H.pick [3, 4, 0, 1, 2, 5] 6 (by decide)
       simp only [pk, nth, pkA, pkB, pkC, pkD, pkE, pkF] at h1
       refine Cl.by (by kernel_rfl) (p_step (sc := ⟨t, m, progsM X, pl, dr⟩) hn hk (by omega) hZ.symm hr.ok hzl hn1 hXZ hr.p0 hr.d0 h1) ?_
       rintro _ w ⟨ka, kc, rfl, H⟩
       refine ⟨_, rfl, ?_⟩
       replace H := H.pick [0, 3, 4, 5, 1, 2, 6] 7 (by decide)
       simp only [pk, nth, pkA, pkB, pkC, pkD, pkE, pkF] at H
       refine ⟨?_⟩
       have h1 := H.pick [1, 6, 0, 2, 3, 4, 5] 7 (by decide)
       simp only [pk, nth, pkA, pkB, pkC, pkD, pkE, pkF] at h1
       refine Cl.sl (by kernel_rfl) (r_step (s := ⟨t, m, progsM X, pl, dr⟩) (pl := pl) (dr := dr) (np := X.length) (k := i * 1100) rfl hXA rfl hL (fun z hz => (hgp z hz).1) rfl hD (fun z hz => (hgd z hz).1) (by unfold progsM; rw [List.length_map]) hn1 hr.ok (by omega) hd hk (by omega) h1) fun w H => ?_
       replace H := H.pick [2, 0, 3, 4, 5, 6, 1] 7 (by decide)
       simp only [pk, nth, pkA, pkB, pkC, pkD, pkE, pkF] at H
       have hky := hk.step (s := ⟨t, m, progsM X, pl, dr⟩) hr.ok (by unfold progsM; rw [List.length_map]) hn1
       have hpre := (pre_step ⟨t, m, progsM X, pl, dr⟩ x).length_le
       have hob : ∃ y, stepL ⟨t, m, progsM X, pl, dr⟩ x = y := ⟨_, rfl⟩
       obtain ⟨y, hy⟩ := hob
       rw [hy] at H hky hpre
       have hcrl := hky.cl
       have hob := eight hky.n8
       obtain ⟨n0, n1, n2, n3, n4, n5, n6, n7, hny⟩ := hob
       simp only [hy]
       have H0 := H.pick [1, 0, 2, 3, 4, 5, 6] 7 (by decide)
       simp only [pk, nth, pkA, pkB, pkC, pkD, pkE, pkF] at H0
       replace H := H0
       have hob := rl_open (x := y) hny H
       obtain ⟨hb2, crb2, cha2, chc2, ta2, tc2, ps2, hl2, H⟩ := hob
       have H0 := H.pick [2, 0, 1, 3, 4, 5, 6, 7, 8, 9, 10, 11] 12 (by decide)
       simp only [pk, nth, pkA, pkB, pkC, pkD, pkE, pkF] at H0
       have hob := ones_open H0
       obtain ⟨ov, H⟩ := hob
       have hob := SL.slcForm H.up1
       obtain ⟨oa, oc, rfl⟩ := hob
       refine BB.k ?_
       refine RgX.cut (id := 22) (ι := Unit) [(105, 126)] (by kernel_rfl) (fun _ => [(126, .bool false)]) (fun _ w => True ∧ SL w (row crb2 #[.slice oa y.crew.length oc] 66 :: Slc 70 3 (.slice oa y.crew.length oc) y.crew.length (y.crew.flatMap One.cells) :: row rl #[.int .i64 t, .int .i64 m, .slice (some ⟨pb, po, none⟩) X.length pc, .slice (some ⟨bl, ol, none⟩) pl.length lc, .slice da dr.length dc, .pointer (some ⟨hb2, 0, none⟩), .pointer (some ⟨crb2, 0, none⟩), .slice cha2 y.M.length chc2, .int .i64 n0, .int .i64 n1, .int .i64 n2, .int .i64 n3, .int .i64 n4, .int .i64 n5, .int .i64 n6, .int .i64 n7, .slice ta2 y.tr.length tc2, .bool y.pan] 62 :: row hb2 #[.slice (some ⟨bl, ol, none⟩) pl.length lc, .slice da dr.length dc, .int .i64 ↑y.p, .int .i64 ↑y.d] 94 :: Slc 139 1 (.slice cha2 y.M.length chc2) y.M.length (pcs (ps2.map some)) :: RsP (ps2.map some) y.M :: Slc 36 8 (.slice ta2 y.tr.length tc2) y.tr.length (y.tr.flatMap Ev.cells) :: Slc 36 8 (.slice ka (y.tr.length - x.tr.length) kc) (y.tr.length - x.tr.length) ((y.tr.drop x.tr.length).flatMap Ev.cells) :: row b9 #[.int .i64 0, .int .i64 0, .int .i64 0, .slice none 0 0, .bool false] 44 :: row b1 #[.int .i64 t, .int .i64 m, .slice (some ⟨pb, po, none⟩) X.length pc, .slice (some ⟨bl, ol, none⟩) pl.length lc, .slice da dr.length dc] 25 :: LmP lm ⟨t, m, progsM X, pl, dr⟩ ⟨t, m, .slice (some ⟨vb, 0, none⟩) Z.length vc, .slice la' pl.length lc', .slice da' dr.length dc'⟩ y :: scrP (some ⟨vb, 0, none⟩) vc Z :: A :: F)) ?_ ?_
       ·skip
        refine ⟨?_⟩
        refine Drw.oft (.calm 0 (.calm 1 (.calm 2 (.calm 3 (.calm 4 (.calm 5 (.calm 6 (.act 7 true (.pure 8 (.pure 9 (.pure 10 (.pure 12 (.pure 13 (.pure 14 (.two 11 true (.act 15 true (.pure 16 (.pure 17 (.act 18 true (.act 19 true (.act 20 true (.pure 21 .nil))))))) 15 true (.pure 16 (.pure 17 (.two 11 true (.act 18 true (.act 19 true (.act 20 true (.pure 21 .nil)))) 18 true (.two 11 true (.act 19 true (.act 20 true (.pure 21 .nil))) 19 true (.act 11 true (.act 20 true (.pure 21 .nil)))))))))))))))))))))) (by kernel_rfl) mixed (fun w => SL w _) H.drew ?_
        replace H := H.drew
        refine LdC.i 2 rfl (v := .slice ta2 y.tr.length tc2) rfl ?_
        refine MnC.cutS (lo := x.tr.length) (SL.slcLe H.up6) 6 rfl (.tmp 109) (.tmp 110) 28 (by rfl) (by kernel_rfl) (by kernel_rfl) (by rfl) (by rfl) (hpre) fun sa1 sk1 hR1 => ?_
        rw [evs_drop] at hR1
        have h1 := H.pick [7, 6, 0, 1, 2, 3, 4, 5, 8, 9, 10, 11, 12] 13 (by decide)
        simp only [pk, nth, pkA, pkB, pkC, pkD, pkE, pkF] at h1
        refine Cl.sl (by kernel_rfl) (l_eventsN (List.length_drop ..) (by have := hky.tr; omega) Reader.slc hR1 h1) fun w H => ?_
        replace H := H.pick [2, 3, 4, 5, 6, 7, 1, 0, 8, 9, 10, 11, 12] 13 (by decide)
        simp only [pk, nth, pkA, pkB, pkC, pkD, pkE, pkF] at H
        refine BB.yes rfl ?_
        refine ⟨.inl rfl, ?_⟩
        refine BB.no rfl ?_
        refine ⟨?_, ?_⟩
        ·skip
         have h1 := H.pick [10, 0, 1, 2, 3, 4, 5, 6, 7, 8, 9, 11, 12] 13 (by decide)
         simp only [pk, nth, pkA, pkB, pkC, pkD, pkE, pkF] at h1
         refine Cl.sl (by kernel_rfl) (p_lenL hny hky h1) fun w H => ?_
         replace H := H.pick [1, 2, 3, 4, 5, 6, 7, 8, 9, 10, 0, 11, 12] 13 (by decide)
         simp only [pk, nth, pkA, pkB, pkC, pkD, pkE, pkF] at H
         refine ⟨.inl rfl, ?_⟩
         refine H.ldi 2 rfl (v := .pointer (some ⟨crb2, 0, none⟩)) rfl ?_
         refine ⟨.inl rfl, ?_⟩
         refine H.ldi 0 rfl (v := .slice oa y.crew.length oc) rfl ?_
         refine ⟨.inl rfl, ?_⟩
         refine ⟨.inl rfl, ?_⟩
         refine BB.no (bne_self_eq_false _) ?_
         refine ⟨.inl rfl, ?_⟩
         exact ⟨(), ⟨rfl, trivial⟩, trivial, H⟩
        ·skip
         refine H.ldi 2 rfl (v := .pointer (some ⟨crb2, 0, none⟩)) rfl ?_
         refine ⟨.inl rfl, ?_⟩
         refine ⟨?_, ?_⟩
         ·skip
          have h1 := H.pick [10, 0, 1, 2, 3, 4, 5, 6, 7, 8, 9, 11, 12] 13 (by decide)
          simp only [pk, nth, pkA, pkB, pkC, pkD, pkE, pkF] at h1
          refine Cl.sl (by kernel_rfl) (p_lenL hny hky h1) fun w H => ?_
          replace H := H.pick [1, 2, 3, 4, 5, 6, 7, 8, 9, 10, 0, 11, 12] 13 (by decide)
          simp only [pk, nth, pkA, pkB, pkC, pkD, pkE, pkF] at H
          refine ⟨.inl rfl, ?_⟩
          refine H.ldi 0 rfl (v := .slice oa y.crew.length oc) rfl ?_
          refine ⟨.inl rfl, ?_⟩
          refine ⟨.inl rfl, ?_⟩
          refine BB.no (bne_self_eq_false _) ?_
          refine ⟨.inl rfl, ?_⟩
          exact ⟨(), ⟨rfl, trivial⟩, trivial, H⟩
         ·skip
          refine H.ldi 0 rfl (v := .slice oa y.crew.length oc) rfl ?_
          refine ⟨.inl rfl, ?_⟩
          refine ⟨?_, ?_⟩
          ·skip
           have h1 := H.pick [10, 0, 1, 2, 3, 4, 5, 6, 7, 8, 9, 11, 12] 13 (by decide)
           simp only [pk, nth, pkA, pkB, pkC, pkD, pkE, pkF] at h1
           refine Cl.sl (by kernel_rfl) (p_lenL hny hky h1) fun w H => ?_
           replace H := H.pick [1, 2, 3, 4, 5, 6, 7, 8, 9, 10, 0, 11, 12] 13 (by decide)
           simp only [pk, nth, pkA, pkB, pkC, pkD, pkE, pkF] at H
           refine ⟨.inl rfl, ?_⟩
           refine ⟨.inl rfl, ?_⟩
           refine BB.no (bne_self_eq_false _) ?_
           refine ⟨.inl rfl, ?_⟩
           exact ⟨(), ⟨rfl, trivial⟩, trivial, H⟩
          ·skip
           refine ⟨.inl rfl, ?_⟩
           have h1 := H.pick [10, 0, 1, 2, 3, 4, 5, 6, 7, 8, 9, 11, 12] 13 (by decide)
           simp only [pk, nth, pkA, pkB, pkC, pkD, pkE, pkF] at h1
           refine Cl.sl (by kernel_rfl) (p_lenL hny hky h1) fun w H => ?_
           replace H := H.pick [1, 2, 3, 4, 5, 6, 7, 8, 9, 10, 0, 11, 12] 13 (by decide)
           simp only [pk, nth, pkA, pkB, pkC, pkD, pkE, pkF] at H
           refine ⟨.inl rfl, ?_⟩
           refine BB.no (bne_self_eq_false _) ?_
           refine ⟨.inl rfl, ?_⟩
           exact ⟨(), ⟨rfl, trivial⟩, trivial, H⟩
       ·skip
        rintro _ s w ⟨hc, H⟩
        refine Cn.no ?_
        refine ⟨?_⟩
        refine H.ldi 2 rfl (v := .pointer (some ⟨crb2, 0, none⟩)) rfl ?_
        refine H.ldi 0 rfl (v := .slice oa y.crew.length oc) rfl ?_
        refine ⟨?_⟩
        refine den.loop (ι := Nat) [(2, 2), (14, 16), (135, 161)] (by kernel_rfl) (fun k => [(135, .int .i64 ↑k)]) (fun k w => k ≤ y.crew.length ∧ SL w (row crb2 #[.slice oa y.crew.length oc] 66 :: Slc 70 3 (.slice oa y.crew.length oc) y.crew.length (y.crew.flatMap One.cells) :: row rl #[.int .i64 t, .int .i64 m, .slice (some ⟨pb, po, none⟩) X.length pc, .slice (some ⟨bl, ol, none⟩) pl.length lc, .slice da dr.length dc, .pointer (some ⟨hb2, 0, none⟩), .pointer (some ⟨crb2, 0, none⟩), .slice cha2 y.M.length chc2, .int .i64 n0, .int .i64 n1, .int .i64 n2, .int .i64 n3, .int .i64 n4, .int .i64 n5, .int .i64 n6, .int .i64 n7, .slice ta2 y.tr.length tc2, .bool y.pan] 62 :: row hb2 #[.slice (some ⟨bl, ol, none⟩) pl.length lc, .slice da dr.length dc, .int .i64 ↑y.p, .int .i64 ↑y.d] 94 :: Slc 139 1 (.slice cha2 y.M.length chc2) y.M.length (pcs (ps2.map some)) :: RsP (ps2.map some) y.M :: Slc 36 8 (.slice ta2 y.tr.length tc2) y.tr.length (y.tr.flatMap Ev.cells) :: Slc 36 8 (.slice ka (y.tr.length - x.tr.length) kc) (y.tr.length - x.tr.length) ((y.tr.drop x.tr.length).flatMap Ev.cells) :: row b9 #[.int .i64 0, .int .i64 0, .int .i64 0, .slice none 0 0, .bool false] 44 :: row b1 #[.int .i64 t, .int .i64 m, .slice (some ⟨pb, po, none⟩) X.length pc, .slice (some ⟨bl, ol, none⟩) pl.length lc, .slice da dr.length dc] 25 :: LmP lm ⟨t, m, progsM X, pl, dr⟩ ⟨t, m, .slice (some ⟨vb, 0, none⟩) Z.length vc, .slice la' pl.length lc', .slice da' dr.length dc'⟩ y :: scrP (some ⟨vb, 0, none⟩) vc Z :: A :: F)) (fun k => y.crew.length - k) 0 ⟨rfl, trivial⟩ ⟨Nat.zero_le _, H⟩ ?_
        rintro k s w ⟨hkk, H⟩
        have hob := Nat.lt_or_ge k y.crew.length
        rcases hob with hkl | hkl
        ·skip
         have hob : ∃ z, y.crew[k]? = some z := ⟨_, List.getElem?_eq_getElem hkl⟩
         obtain ⟨z, hone⟩ := hob
         have hob := SL.slcAddr (H.up1) (by omega)
         obtain ⟨ob, rfl⟩ := hob
         refine ⟨?_⟩
         refine BB.yes (decide_eq_true (by omega)) ?_
         refine Cn.yes ?_
         refine ⟨?_⟩
         refine ⟨?_⟩
         refine ⟨?_⟩
         have h1 := H.pick [10, 0, 1, 2, 3, 4, 5, 6, 7, 8, 9, 11, 12] 13 (by decide)
         simp only [pk, nth, pkA, pkB, pkC, pkD, pkE, pkF] at h1
         have hq := p_stateL hny hky (k : Int) h1
         rw [stateF_full hone] at hq
         refine Cl.sl (by kernel_rfl) hq fun w H => ?_
         replace H := H.pick [1, 2, 3, 4, 5, 6, 7, 8, 9, 10, 0, 11, 12] 13 (by decide)
         simp only [pk, nth, pkA, pkB, pkC, pkD, pkE, pkF] at H
         refine ⟨?_⟩
         refine BB.no rfl ?_
         refine H.ldi 2 rfl (v := .pointer (some ⟨crb2, 0, none⟩)) rfl ?_
         refine H.ldi 0 rfl (v := .slice (some ⟨ob, 0, none⟩) y.crew.length oc) rfl ?_
         refine Ix.at0 k 3 (by kernel_rfl) (rfl) (hkl) ?_
         refine H.ldS 1 rfl (v := .int .i64 z.state) ((ones_at hone 2 (by decide)).trans rfl) ?_
         refine BB.no (bne_self_eq_false _) ?_
         refine Cn.no ?_
         refine ⟨?_⟩
         refine IW.by (wrap_id (n := ↑k + 1) (by omega) (by omega)) ?_
         exact ⟨k + 1, ⟨rfl, trivial⟩, ⟨(by omega : k + 1 ≤ y.crew.length), H⟩, (show y.crew.length - (k + 1) < y.crew.length - k by omega)⟩
        ·skip
         have hob : k = y.crew.length := by omega
         obtain rfl := hob
         refine ⟨?_⟩
         refine BB.no (decide_eq_false (by omega)) ?_
         refine Cn.no ?_
         refine ⟨?_⟩
         refine IW.by (wrap_id (n := ↑i + 1) (by omega) (by omega)) ?_
         have H0 := H
         replace H := ones_shut H0
         have H0 := H.pick [1, 2, 0, 3, 4, 5, 6, 7, 8, 9, 10, 11] 12 (by decide)
         simp only [pk, nth, pkA, pkB, pkC, pkD, pkE, pkF] at H0
         replace H := rl_shut (x := y) hl2 rfl hny H0
         have hxy : runL ⟨t, m, progsM X, pl, dr⟩ (i + 1) = y := by show stepL ⟨t, m, progsM X, pl, dr⟩ (runL ⟨t, m, progsM X, pl, dr⟩ i) = y; rw [hx, hy]
         rw [← hxy] at H
         exact ⟨i + 1, ⟨rfl, trivial⟩, ⟨(by omega : i + 1 ≤ pl.length + 1), H.pick [3, 4, 5, 0, 6] 7 (by decide)⟩, (show pl.length + 1 - (i + 1) < pl.length + 1 - i by omega)⟩
      ·skip
       refine Mn.pure (.agg #[.int .i64 0, .int .i64 0, .int .i64 0, .slice none 0 0, .bool false]) (by kernel_rfl) ?_
       refine ⟨.inl rfl, ?_⟩
       refine H.ldi 0 rfl (v := .int .i64 0) rfl ?_
       refine H.ldi 0 rfl (v := .int .i64 0) rfl ?_
       refine H.ldi 0 rfl (v := .int .i64 0) rfl ?_
       refine H.ldi 0 rfl (v := .slice none 0 0) rfl ?_
       refine H.ldi 0 rfl (v := .bool false) rfl ?_
       refine ⟨.inl rfl, ?_⟩
       refine Cl.sl (by kernel_rfl) (l_opZ H) fun w H => ?_
       refine BB.yes rfl ?_
       refine ⟨.inl rfl, ?_⟩
       refine BB.no rfl ?_
       refine Cn.no ?_
       have H0 := H.pick [4, 0, 1, 2, 3, 5] 6 (by decide)
       simp only [pk, nth, pkA, pkB, pkC, pkD, pkE, pkF] at H0
       replace H := H0
       have hob := rl_open (x := x) hn H
       obtain ⟨hb3, crb3, cha3, chc3, ta3, tc3, ps3, hl3, H⟩ := hob
       refine ⟨?_⟩
       refine H.ldi 0 rfl (v := .slice ta3 x.tr.length tc3) rfl ?_
       have H0 := H
       replace H := rl_shut (x := x) hl3 rfl hn H0
       refine ⟨?_⟩
       have h1 := H.pick [3, 4, 0, 1, 2, 5] 6 (by decide)
       simp only [pk, nth, pkA, pkB, pkC, pkD, pkE, pkF] at h1
       refine Cl.by (by kernel_rfl) (p_step (sc := ⟨t, m, progsM X, pl, dr⟩) hn hk (by omega) hZ.symm hr.ok hzl hn1 hXZ hr.p0 hr.d0 h1) ?_
       rintro _ w ⟨ka, kc, rfl, H⟩
       refine ⟨_, rfl, ?_⟩
       replace H := H.pick [0, 3, 4, 5, 1, 2, 6] 7 (by decide)
       simp only [pk, nth, pkA, pkB, pkC, pkD, pkE, pkF] at H
       refine ⟨?_⟩
       have h1 := H.pick [1, 6, 0, 2, 3, 4, 5] 7 (by decide)
       simp only [pk, nth, pkA, pkB, pkC, pkD, pkE, pkF] at h1
       refine Cl.sl (by kernel_rfl) (r_step (s := ⟨t, m, progsM X, pl, dr⟩) (pl := pl) (dr := dr) (np := X.length) (k := i * 1100) rfl hXA rfl hL (fun z hz => (hgp z hz).1) rfl hD (fun z hz => (hgd z hz).1) (by unfold progsM; rw [List.length_map]) hn1 hr.ok (by omega) hd hk (by omega) h1) fun w H => ?_
       replace H := H.pick [2, 0, 3, 4, 5, 6, 1] 7 (by decide)
       simp only [pk, nth, pkA, pkB, pkC, pkD, pkE, pkF] at H
       have hky := hk.step (s := ⟨t, m, progsM X, pl, dr⟩) hr.ok (by unfold progsM; rw [List.length_map]) hn1
       have hpre := (pre_step ⟨t, m, progsM X, pl, dr⟩ x).length_le
       have hob : ∃ y, stepL ⟨t, m, progsM X, pl, dr⟩ x = y := ⟨_, rfl⟩
       obtain ⟨y, hy⟩ := hob
       rw [hy] at H hky hpre
       have hcrl := hky.cl
       have hob := eight hky.n8
       obtain ⟨n0, n1, n2, n3, n4, n5, n6, n7, hny⟩ := hob
       simp only [hy]
       have H0 := H.pick [1, 0, 2, 3, 4, 5, 6] 7 (by decide)
       simp only [pk, nth, pkA, pkB, pkC, pkD, pkE, pkF] at H0
       replace H := H0
       have hob := rl_open (x := y) hny H
       obtain ⟨hb4, crb4, cha4, chc4, ta4, tc4, ps4, hl4, H⟩ := hob
       have H0 := H.pick [2, 0, 1, 3, 4, 5, 6, 7, 8, 9, 10, 11] 12 (by decide)
       simp only [pk, nth, pkA, pkB, pkC, pkD, pkE, pkF] at H0
       have hob := ones_open H0
       obtain ⟨ov, H⟩ := hob
       have hob := SL.slcForm H.up1
       obtain ⟨oa, oc, rfl⟩ := hob
       refine BB.k ?_
       refine RgX.cut (id := 22) (ι := Unit) [(105, 126)] (by kernel_rfl) (fun _ => [(126, .bool false)]) (fun _ w => True ∧ SL w (row crb4 #[.slice oa y.crew.length oc] 66 :: Slc 70 3 (.slice oa y.crew.length oc) y.crew.length (y.crew.flatMap One.cells) :: row rl #[.int .i64 t, .int .i64 m, .slice (some ⟨pb, po, none⟩) X.length pc, .slice (some ⟨bl, ol, none⟩) pl.length lc, .slice da dr.length dc, .pointer (some ⟨hb4, 0, none⟩), .pointer (some ⟨crb4, 0, none⟩), .slice cha4 y.M.length chc4, .int .i64 n0, .int .i64 n1, .int .i64 n2, .int .i64 n3, .int .i64 n4, .int .i64 n5, .int .i64 n6, .int .i64 n7, .slice ta4 y.tr.length tc4, .bool y.pan] 62 :: row hb4 #[.slice (some ⟨bl, ol, none⟩) pl.length lc, .slice da dr.length dc, .int .i64 ↑y.p, .int .i64 ↑y.d] 94 :: Slc 139 1 (.slice cha4 y.M.length chc4) y.M.length (pcs (ps4.map some)) :: RsP (ps4.map some) y.M :: Slc 36 8 (.slice ta4 y.tr.length tc4) y.tr.length (y.tr.flatMap Ev.cells) :: Slc 36 8 (.slice ka (y.tr.length - x.tr.length) kc) (y.tr.length - x.tr.length) ((y.tr.drop x.tr.length).flatMap Ev.cells) :: row b9 #[.int .i64 0, .int .i64 0, .int .i64 0, .slice none 0 0, .bool false] 44 :: row b1 #[.int .i64 t, .int .i64 m, .slice (some ⟨pb, po, none⟩) X.length pc, .slice (some ⟨bl, ol, none⟩) pl.length lc, .slice da dr.length dc] 25 :: LmP lm ⟨t, m, progsM X, pl, dr⟩ ⟨t, m, .slice (some ⟨vb, 0, none⟩) Z.length vc, .slice la' pl.length lc', .slice da' dr.length dc'⟩ y :: scrP (some ⟨vb, 0, none⟩) vc Z :: A :: F)) ?_ ?_
       ·skip
        refine ⟨?_⟩
        refine Drw.oft (.calm 0 (.calm 1 (.calm 2 (.calm 3 (.calm 4 (.calm 5 (.calm 6 (.act 7 true (.pure 8 (.pure 9 (.pure 10 (.pure 12 (.pure 13 (.pure 14 (.two 11 true (.act 15 true (.pure 16 (.pure 17 (.act 18 true (.act 19 true (.act 20 true (.pure 21 .nil))))))) 15 true (.pure 16 (.pure 17 (.two 11 true (.act 18 true (.act 19 true (.act 20 true (.pure 21 .nil)))) 18 true (.two 11 true (.act 19 true (.act 20 true (.pure 21 .nil))) 19 true (.act 11 true (.act 20 true (.pure 21 .nil)))))))))))))))))))))) (by kernel_rfl) mixed (fun w => SL w _) H.drew ?_
        replace H := H.drew
        refine LdC.i 2 rfl (v := .slice ta4 y.tr.length tc4) rfl ?_
        refine MnC.cutS (lo := x.tr.length) (SL.slcLe H.up6) 6 rfl (.tmp 109) (.tmp 110) 28 (by rfl) (by kernel_rfl) (by kernel_rfl) (by rfl) (by rfl) (hpre) fun sa2 sk2 hR2 => ?_
        rw [evs_drop] at hR2
        have h1 := H.pick [7, 6, 0, 1, 2, 3, 4, 5, 8, 9, 10, 11, 12] 13 (by decide)
        simp only [pk, nth, pkA, pkB, pkC, pkD, pkE, pkF] at h1
        refine Cl.sl (by kernel_rfl) (l_eventsN (List.length_drop ..) (by have := hky.tr; omega) Reader.slc hR2 h1) fun w H => ?_
        replace H := H.pick [2, 3, 4, 5, 6, 7, 1, 0, 8, 9, 10, 11, 12] 13 (by decide)
        simp only [pk, nth, pkA, pkB, pkC, pkD, pkE, pkF] at H
        refine BB.yes rfl ?_
        refine ⟨.inl rfl, ?_⟩
        refine BB.no rfl ?_
        refine ⟨?_, ?_⟩
        ·skip
         have h1 := H.pick [10, 0, 1, 2, 3, 4, 5, 6, 7, 8, 9, 11, 12] 13 (by decide)
         simp only [pk, nth, pkA, pkB, pkC, pkD, pkE, pkF] at h1
         refine Cl.sl (by kernel_rfl) (p_lenL hny hky h1) fun w H => ?_
         replace H := H.pick [1, 2, 3, 4, 5, 6, 7, 8, 9, 10, 0, 11, 12] 13 (by decide)
         simp only [pk, nth, pkA, pkB, pkC, pkD, pkE, pkF] at H
         refine ⟨.inl rfl, ?_⟩
         refine H.ldi 2 rfl (v := .pointer (some ⟨crb4, 0, none⟩)) rfl ?_
         refine ⟨.inl rfl, ?_⟩
         refine H.ldi 0 rfl (v := .slice oa y.crew.length oc) rfl ?_
         refine ⟨.inl rfl, ?_⟩
         refine ⟨.inl rfl, ?_⟩
         refine BB.no (bne_self_eq_false _) ?_
         refine ⟨.inl rfl, ?_⟩
         exact ⟨(), ⟨rfl, trivial⟩, trivial, H⟩
        ·skip
         refine H.ldi 2 rfl (v := .pointer (some ⟨crb4, 0, none⟩)) rfl ?_
         refine ⟨.inl rfl, ?_⟩
         refine ⟨?_, ?_⟩
         ·skip
          have h1 := H.pick [10, 0, 1, 2, 3, 4, 5, 6, 7, 8, 9, 11, 12] 13 (by decide)
          simp only [pk, nth, pkA, pkB, pkC, pkD, pkE, pkF] at h1
          refine Cl.sl (by kernel_rfl) (p_lenL hny hky h1) fun w H => ?_
          replace H := H.pick [1, 2, 3, 4, 5, 6, 7, 8, 9, 10, 0, 11, 12] 13 (by decide)
          simp only [pk, nth, pkA, pkB, pkC, pkD, pkE, pkF] at H
          refine ⟨.inl rfl, ?_⟩
          refine H.ldi 0 rfl (v := .slice oa y.crew.length oc) rfl ?_
          refine ⟨.inl rfl, ?_⟩
          refine ⟨.inl rfl, ?_⟩
          refine BB.no (bne_self_eq_false _) ?_
          refine ⟨.inl rfl, ?_⟩
          exact ⟨(), ⟨rfl, trivial⟩, trivial, H⟩
         ·skip
          refine H.ldi 0 rfl (v := .slice oa y.crew.length oc) rfl ?_
          refine ⟨.inl rfl, ?_⟩
          refine ⟨?_, ?_⟩
          ·skip
           have h1 := H.pick [10, 0, 1, 2, 3, 4, 5, 6, 7, 8, 9, 11, 12] 13 (by decide)
           simp only [pk, nth, pkA, pkB, pkC, pkD, pkE, pkF] at h1
           refine Cl.sl (by kernel_rfl) (p_lenL hny hky h1) fun w H => ?_
           replace H := H.pick [1, 2, 3, 4, 5, 6, 7, 8, 9, 10, 0, 11, 12] 13 (by decide)
           simp only [pk, nth, pkA, pkB, pkC, pkD, pkE, pkF] at H
           refine ⟨.inl rfl, ?_⟩
           refine ⟨.inl rfl, ?_⟩
           refine BB.no (bne_self_eq_false _) ?_
           refine ⟨.inl rfl, ?_⟩
           exact ⟨(), ⟨rfl, trivial⟩, trivial, H⟩
          ·skip
           refine ⟨.inl rfl, ?_⟩
           have h1 := H.pick [10, 0, 1, 2, 3, 4, 5, 6, 7, 8, 9, 11, 12] 13 (by decide)
           simp only [pk, nth, pkA, pkB, pkC, pkD, pkE, pkF] at h1
           refine Cl.sl (by kernel_rfl) (p_lenL hny hky h1) fun w H => ?_
           replace H := H.pick [1, 2, 3, 4, 5, 6, 7, 8, 9, 10, 0, 11, 12] 13 (by decide)
           simp only [pk, nth, pkA, pkB, pkC, pkD, pkE, pkF] at H
           refine ⟨.inl rfl, ?_⟩
           refine BB.no (bne_self_eq_false _) ?_
           refine ⟨.inl rfl, ?_⟩
           exact ⟨(), ⟨rfl, trivial⟩, trivial, H⟩
       ·skip
        rintro _ s w ⟨hc, H⟩
        refine Cn.no ?_
        refine ⟨?_⟩
        refine H.ldi 2 rfl (v := .pointer (some ⟨crb4, 0, none⟩)) rfl ?_
        refine H.ldi 0 rfl (v := .slice oa y.crew.length oc) rfl ?_
        refine ⟨?_⟩
        refine den.loop (ι := Nat) [(2, 2), (14, 16), (135, 161)] (by kernel_rfl) (fun k => [(135, .int .i64 ↑k)]) (fun k w => k ≤ y.crew.length ∧ SL w (row crb4 #[.slice oa y.crew.length oc] 66 :: Slc 70 3 (.slice oa y.crew.length oc) y.crew.length (y.crew.flatMap One.cells) :: row rl #[.int .i64 t, .int .i64 m, .slice (some ⟨pb, po, none⟩) X.length pc, .slice (some ⟨bl, ol, none⟩) pl.length lc, .slice da dr.length dc, .pointer (some ⟨hb4, 0, none⟩), .pointer (some ⟨crb4, 0, none⟩), .slice cha4 y.M.length chc4, .int .i64 n0, .int .i64 n1, .int .i64 n2, .int .i64 n3, .int .i64 n4, .int .i64 n5, .int .i64 n6, .int .i64 n7, .slice ta4 y.tr.length tc4, .bool y.pan] 62 :: row hb4 #[.slice (some ⟨bl, ol, none⟩) pl.length lc, .slice da dr.length dc, .int .i64 ↑y.p, .int .i64 ↑y.d] 94 :: Slc 139 1 (.slice cha4 y.M.length chc4) y.M.length (pcs (ps4.map some)) :: RsP (ps4.map some) y.M :: Slc 36 8 (.slice ta4 y.tr.length tc4) y.tr.length (y.tr.flatMap Ev.cells) :: Slc 36 8 (.slice ka (y.tr.length - x.tr.length) kc) (y.tr.length - x.tr.length) ((y.tr.drop x.tr.length).flatMap Ev.cells) :: row b9 #[.int .i64 0, .int .i64 0, .int .i64 0, .slice none 0 0, .bool false] 44 :: row b1 #[.int .i64 t, .int .i64 m, .slice (some ⟨pb, po, none⟩) X.length pc, .slice (some ⟨bl, ol, none⟩) pl.length lc, .slice da dr.length dc] 25 :: LmP lm ⟨t, m, progsM X, pl, dr⟩ ⟨t, m, .slice (some ⟨vb, 0, none⟩) Z.length vc, .slice la' pl.length lc', .slice da' dr.length dc'⟩ y :: scrP (some ⟨vb, 0, none⟩) vc Z :: A :: F)) (fun k => y.crew.length - k) 0 ⟨rfl, trivial⟩ ⟨Nat.zero_le _, H⟩ ?_
        rintro k s w ⟨hkk, H⟩
        have hob := Nat.lt_or_ge k y.crew.length
        rcases hob with hkl | hkl
        ·skip
         have hob : ∃ z, y.crew[k]? = some z := ⟨_, List.getElem?_eq_getElem hkl⟩
         obtain ⟨z, hone⟩ := hob
         have hob := SL.slcAddr (H.up1) (by omega)
         obtain ⟨ob, rfl⟩ := hob
         refine ⟨?_⟩
         refine BB.yes (decide_eq_true (by omega)) ?_
         refine Cn.yes ?_
         refine ⟨?_⟩
         refine ⟨?_⟩
         refine ⟨?_⟩
         have h1 := H.pick [10, 0, 1, 2, 3, 4, 5, 6, 7, 8, 9, 11, 12] 13 (by decide)
         simp only [pk, nth, pkA, pkB, pkC, pkD, pkE, pkF] at h1
         have hq := p_stateL hny hky (k : Int) h1
         rw [stateF_full hone] at hq
         refine Cl.sl (by kernel_rfl) hq fun w H => ?_
         replace H := H.pick [1, 2, 3, 4, 5, 6, 7, 8, 9, 10, 0, 11, 12] 13 (by decide)
         simp only [pk, nth, pkA, pkB, pkC, pkD, pkE, pkF] at H
         refine ⟨?_⟩
         refine BB.no rfl ?_
         refine H.ldi 2 rfl (v := .pointer (some ⟨crb4, 0, none⟩)) rfl ?_
         refine H.ldi 0 rfl (v := .slice (some ⟨ob, 0, none⟩) y.crew.length oc) rfl ?_
         refine Ix.at0 k 3 (by kernel_rfl) (rfl) (hkl) ?_
         refine H.ldS 1 rfl (v := .int .i64 z.state) ((ones_at hone 2 (by decide)).trans rfl) ?_
         refine BB.no (bne_self_eq_false _) ?_
         refine Cn.no ?_
         refine ⟨?_⟩
         refine IW.by (wrap_id (n := ↑k + 1) (by omega) (by omega)) ?_
         exact ⟨k + 1, ⟨rfl, trivial⟩, ⟨(by omega : k + 1 ≤ y.crew.length), H⟩, (show y.crew.length - (k + 1) < y.crew.length - k by omega)⟩
        ·skip
         have hob : k = y.crew.length := by omega
         obtain rfl := hob
         refine ⟨?_⟩
         refine BB.no (decide_eq_false (by omega)) ?_
         refine Cn.no ?_
         refine ⟨?_⟩
         refine IW.by (wrap_id (n := ↑i + 1) (by omega) (by omega)) ?_
         have H0 := H
         replace H := ones_shut H0
         have H0 := H.pick [1, 2, 0, 3, 4, 5, 6, 7, 8, 9, 10, 11] 12 (by decide)
         simp only [pk, nth, pkA, pkB, pkC, pkD, pkE, pkF] at H0
         replace H := rl_shut (x := y) hl4 rfl hny H0
         have hxy : runL ⟨t, m, progsM X, pl, dr⟩ (i + 1) = y := by show stepL ⟨t, m, progsM X, pl, dr⟩ (runL ⟨t, m, progsM X, pl, dr⟩ i) = y; rw [hx, hy]
         rw [← hxy] at H
         exact ⟨i + 1, ⟨rfl, trivial⟩, ⟨(by omega : i + 1 ≤ pl.length + 1), H.pick [3, 4, 5, 0, 6] 7 (by decide)⟩, (show pl.length + 1 - (i + 1) < pl.length + 1 - i by omega)⟩
     ·skip
      have hob := ver_zero hv
      obtain ⟨_, hvo, hvp⟩ := hob
      have hvp' : x.p < pl.length := hvp
      have hob := H.addrR 4 rfl hL (by omega)
      obtain ⟨bl, ol, rfl⟩ := hob
      have hIA := IntA.of hL
      have hab := ablePos hvo
      have hgw := who_in hv h0
      have hob := Int.eq_ofNat_of_zero_le hgw.1
      obtain ⟨gk, hgk⟩ := hob
      have hgl : gk < x.crew.length := by omega
      have hob : ∃ z, x.crew[gk]? = some z := ⟨_, List.getElem?_eq_getElem hgl⟩
      obtain ⟨⟨pr0, pl0, cst⟩, hone0⟩ := hob
      have hpr0 := hk.pr _ (List.mem_of_getElem? hone0)
      have hsm0 := hk.sm _ (List.mem_of_getElem? hone0)
      dsimp only at hpr0 hsm0
      have hob := Int.eq_ofNat_of_zero_le hpr0.1
      obtain ⟨prn, rfl⟩ := hob
      have hob := Int.eq_ofNat_of_zero_le hsm0.1
      obtain ⟨pln, rfl⟩ := hob
      have hprn : prn < X.length := by omega
      refine ⟨?_⟩
      refine H.ldi 0 rfl (v := .slice (some ⟨bl, ol, none⟩) pl.length lc) rfl ?_
      refine BB.yes (decide_eq_true (by omega)) ?_
      refine Cn.yes ?_
      refine ⟨?_⟩
      refine ⟨?_⟩
      have h1 := H.pick [1, 2, 0, 3, 4] 5 (by decide)
      simp only [pk, nth, pkA, pkB, pkC, pkD, pkE, pkF] at h1
      refine Cl.by (by kernel_rfl) (p_next_does hn hk hZ.symm hr.ok hzl hXZ hv hr.p0 h0 h1) ?_
      rintro _ w ⟨⟨op, ca, cc⟩, C, hox, hC, rfl, H⟩
      refine ⟨_, rfl, ?_⟩
      dsimp only at hox hC
      refine Nw.as #[.int .i64 0, .int .i64 0, .int .i64 0, .slice none 0 0, .bool false] 44 rfl H fun b9 w H => ?_
      refine H.st0 (cs' := #[.int .i64 op.kind, .int .i64 0, .int .i64 0, .slice none 0 0, .bool false]) rfl rfl rfl fun w H => ?_
      refine H.st0 (cs' := #[.int .i64 op.kind, .int .i64 op.a, .int .i64 0, .slice none 0 0, .bool false]) rfl rfl rfl fun w H => ?_
      refine H.st0 (cs' := #[.int .i64 op.kind, .int .i64 op.a, .int .i64 op.b, .slice none 0 0, .bool false]) rfl rfl rfl fun w H => ?_
      refine H.st0 (cs' := #[.int .i64 op.kind, .int .i64 op.a, .int .i64 op.b, .slice ca op.cases.length cc, .bool false]) rfl rfl rfl fun w H => ?_
      refine H.st0 (cs' := #[.int .i64 op.kind, .int .i64 op.a, .int .i64 op.b, .slice ca op.cases.length cc, .bool op.dflt]) rfl rfl rfl fun w H => ?_
      refine ⟨?_⟩
      have h1 := H.pick [5, 0, 1, 2, 3, 4, 6] 7 (by decide)
      simp only [pk, nth, pkA, pkB, pkC, pkD, pkE, pkF] at h1
      refine Cl.sl (by kernel_rfl) (r_verdict (s := ⟨t, m, progsM X, pl, dr⟩) (x := x) rfl h1) fun w H => ?_
      replace H := H.pick [1, 2, 3, 4, 5, 0, 6] 7 (by decide)
      simp only [pk, nth, pkA, pkB, pkC, pkD, pkE, pkF] at H
      refine BB.yes (beq_iff_eq.2 hv) ?_
      refine BB.no rfl ?_
      have h1 := H.pick [1, 0, 2, 3, 4, 5, 6] 7 (by decide)
      simp only [pk, nth, pkA, pkB, pkC, pkD, pkE, pkF] at h1
      refine Cl.sl (by kernel_rfl) (p_verdict hn hk h1) fun w H => ?_
      replace H := H.pick [1, 0, 2, 3, 4, 5, 6] 7 (by decide)
      simp only [pk, nth, pkA, pkB, pkC, pkD, pkE, pkF] at H
      have h1 := H.pick [5, 0, 1, 2, 3, 4, 6] 7 (by decide)
      simp only [pk, nth, pkA, pkB, pkC, pkD, pkE, pkF] at h1
      refine Cl.sl (by kernel_rfl) (r_verdict (s := ⟨t, m, progsM X, pl, dr⟩) (x := x) rfl h1) fun w H => ?_
      replace H := H.pick [1, 2, 3, 4, 5, 0, 6] 7 (by decide)
      simp only [pk, nth, pkA, pkB, pkC, pkD, pkE, pkF] at H
      refine BB.no (bne_self_eq_false _) ?_
      refine Cn.no ?_
      refine ⟨?_⟩
      refine Cn.yes ?_
      refine ⟨?_⟩
      have h1 := H.pick [5, 6, 0, 1, 2, 3, 4] 7 (by decide)
      simp only [pk, nth, pkA, pkB, pkC, pkD, pkE, pkF] at h1
      have hq := r_who (s := ⟨t, m, progsM X, pl, dr⟩) (x := x) rfl hIA hvp' (fun z hz => hr.p0 z hz) hk.cl hab h1
      refine Cl.sl (by kernel_rfl) hq fun w H => ?_
      replace H := H.pick [2, 3, 4, 5, 6, 0, 1] 7 (by decide)
      simp only [pk, nth, pkA, pkB, pkC, pkD, pkE, pkF] at H
      refine ⟨?_⟩
      refine Drw.oft (.calm 0 (.calm 1 (.calm 2 (.calm 3 (.calm 4 (.calm 5 (.calm 6 (.calm 7 (.calm 8 (.calm 9 (.act 10 false (.act 11 true (.pure 12 (.pure 13 (.pure 14 (.pure 15 (.pure 16 (.act 17 true (.pure 18 (.two 19 true (.act 20 true (.act 21 true (.pure 22 (.pure 23 (.pure 24 .nil))))) 20 true (.act 19 true (.act 21 true (.pure 22 (.pure 23 (.pure 24 .nil))))))))))))))))))))))))) (by kernel_rfl) mixed (fun w => SL w _) H.drew ?_
      replace H := H.drew
      refine BB.no (bne_self_eq_false _) ?_
      refine BB.yes (decide_eq_true (by omega)) ?_
      refine LdC.i 0 rfl (v := .int .i64 op.kind) rfl ?_
      refine LdC.i 0 rfl (v := .int .i64 op.a) rfl ?_
      refine LdC.i 0 rfl (v := .int .i64 op.b) rfl ?_
      refine LdC.i 0 rfl (v := .slice ca op.cases.length cc) rfl ?_
      refine LdC.i 0 rfl (v := .bool op.dflt) rfl ?_
      have h1 := H.pick [5, 6, 0, 1, 2, 3, 4] 7 (by decide)
      simp only [pk, nth, pkA, pkB, pkC, pkD, pkE, pkF] at h1
      have hq := r_op (s := ⟨t, m, progsM X, pl, dr⟩) (x := x) rfl hXA hone0 hprn h1
      rw [← hgk] at hq
      refine Cl.by (by kernel_rfl) hq ?_
      rintro _ w ⟨⟨op2, cb, cd⟩, hox2, ⟨hA2, _⟩, rfl, H⟩
      refine ⟨_, rfl, ?_⟩
      dsimp only at hox2 hA2
      have hob : op = op2 := hox.trans hox2.symm
      obtain rfl := hob
      replace H := H.pick [2, 3, 4, 5, 6, 0, 1] 7 (by decide)
      simp only [pk, nth, pkA, pkB, pkC, pkD, pkE, pkF] at H
      refine ⟨.inr (H.pick [0, 1, 2, 3, 4, 5, 6] 7 (by decide)), ?_⟩
      have hcl4 : op.cases.length ≤ 4 := by rw [hox]; exact (opL_ok (s := ⟨t, m, progsM X, pl, dr⟩) hr.ok hr.n1 _ _).cl
      have h1 := H.pick [3, 6, 0, 1, 2, 4, 5] 7 (by decide)
      simp only [pk, nth, pkA, pkB, pkC, pkD, pkE, pkF] at h1
      refine Cl.sl (by kernel_rfl) (l_op (by omega) hC hA2 h1) fun w H => ?_
      replace H := H.pick [2, 3, 4, 0, 5, 6, 1] 7 (by decide)
      simp only [pk, nth, pkA, pkB, pkC, pkD, pkE, pkF] at H
      refine BB.yes rfl ?_
      refine ⟨.inl rfl, ?_⟩
      refine BB.no rfl ?_
      refine BB.no (decide_eq_false (by omega)) ?_
      refine ⟨.inl rfl, ?_⟩
      refine ⟨?_, ?_⟩
      ·skip
       refine Cn.no ?_
       have H0 := H.pick [5, 0, 1, 2, 3, 4, 6] 7 (by decide)
       simp only [pk, nth, pkA, pkB, pkC, pkD, pkE, pkF] at H0
       replace H := H0
       have hob := rl_open (x := x) hn H
       obtain ⟨hb5, crb5, cha5, chc5, ta5, tc5, ps5, hl5, H⟩ := hob
       refine ⟨?_⟩
       refine H.ldi 0 rfl (v := .slice ta5 x.tr.length tc5) rfl ?_
       have H0 := H
       replace H := rl_shut (x := x) hl5 rfl hn H0
       refine ⟨?_⟩
       have h1 := H.pick [2, 3, 0, 1, 4, 5, 6] 7 (by decide)
       simp only [pk, nth, pkA, pkB, pkC, pkD, pkE, pkF] at h1
       refine Cl.by (by kernel_rfl) (p_step (sc := ⟨t, m, progsM X, pl, dr⟩) hn hk (by omega) hZ.symm hr.ok hzl hn1 hXZ hr.p0 hr.d0 h1) ?_
       rintro _ w ⟨ka, kc, rfl, H⟩
       refine ⟨_, rfl, ?_⟩
       replace H := H.pick [0, 3, 4, 1, 2, 5, 6, 7] 8 (by decide)
       simp only [pk, nth, pkA, pkB, pkC, pkD, pkE, pkF] at H
       refine ⟨?_⟩
       have h1 := H.pick [1, 7, 0, 2, 3, 4, 5, 6] 8 (by decide)
       simp only [pk, nth, pkA, pkB, pkC, pkD, pkE, pkF] at h1
       refine Cl.sl (by kernel_rfl) (r_step (s := ⟨t, m, progsM X, pl, dr⟩) (pl := pl) (dr := dr) (np := X.length) (k := i * 1100) rfl hXA rfl hL (fun z hz => (hgp z hz).1) rfl hD (fun z hz => (hgd z hz).1) (by unfold progsM; rw [List.length_map]) hn1 hr.ok (by omega) hd hk (by omega) h1) fun w H => ?_
       replace H := H.pick [2, 0, 3, 4, 5, 6, 7, 1] 8 (by decide)
       simp only [pk, nth, pkA, pkB, pkC, pkD, pkE, pkF] at H
       have hky := hk.step (s := ⟨t, m, progsM X, pl, dr⟩) hr.ok (by unfold progsM; rw [List.length_map]) hn1
       have hpre := (pre_step ⟨t, m, progsM X, pl, dr⟩ x).length_le
       have hob : ∃ y, stepL ⟨t, m, progsM X, pl, dr⟩ x = y := ⟨_, rfl⟩
       obtain ⟨y, hy⟩ := hob
       rw [hy] at H hky hpre
       have hcrl := hky.cl
       have hob := eight hky.n8
       obtain ⟨n0, n1, n2, n3, n4, n5, n6, n7, hny⟩ := hob
       simp only [hy]
       have H0 := H.pick [1, 0, 2, 3, 4, 5, 6, 7] 8 (by decide)
       simp only [pk, nth, pkA, pkB, pkC, pkD, pkE, pkF] at H0
       replace H := H0
       have hob := rl_open (x := y) hny H
       obtain ⟨hb6, crb6, cha6, chc6, ta6, tc6, ps6, hl6, H⟩ := hob
       have H0 := H.pick [2, 0, 1, 3, 4, 5, 6, 7, 8, 9, 10, 11, 12] 13 (by decide)
       simp only [pk, nth, pkA, pkB, pkC, pkD, pkE, pkF] at H0
       have hob := ones_open H0
       obtain ⟨ov, H⟩ := hob
       have hob := SL.slcForm H.up1
       obtain ⟨oa, oc, rfl⟩ := hob
       refine BB.k ?_
       refine RgX.cut (id := 22) (ι := Unit) [(105, 126)] (by kernel_rfl) (fun _ => [(126, .bool false)]) (fun _ w => True ∧ SL w (row crb6 #[.slice oa y.crew.length oc] 66 :: Slc 70 3 (.slice oa y.crew.length oc) y.crew.length (y.crew.flatMap One.cells) :: row rl #[.int .i64 t, .int .i64 m, .slice (some ⟨pb, po, none⟩) X.length pc, .slice (some ⟨bl, ol, none⟩) pl.length lc, .slice da dr.length dc, .pointer (some ⟨hb6, 0, none⟩), .pointer (some ⟨crb6, 0, none⟩), .slice cha6 y.M.length chc6, .int .i64 n0, .int .i64 n1, .int .i64 n2, .int .i64 n3, .int .i64 n4, .int .i64 n5, .int .i64 n6, .int .i64 n7, .slice ta6 y.tr.length tc6, .bool y.pan] 62 :: row hb6 #[.slice (some ⟨bl, ol, none⟩) pl.length lc, .slice da dr.length dc, .int .i64 ↑y.p, .int .i64 ↑y.d] 94 :: Slc 139 1 (.slice cha6 y.M.length chc6) y.M.length (pcs (ps6.map some)) :: RsP (ps6.map some) y.M :: Slc 36 8 (.slice ta6 y.tr.length tc6) y.tr.length (y.tr.flatMap Ev.cells) :: Slc 36 8 (.slice ka (y.tr.length - x.tr.length) kc) (y.tr.length - x.tr.length) ((y.tr.drop x.tr.length).flatMap Ev.cells) :: row b9 #[.int .i64 op.kind, .int .i64 op.a, .int .i64 op.b, .slice ca op.cases.length cc, .bool op.dflt] 44 :: LmP lm ⟨t, m, progsM X, pl, dr⟩ ⟨t, m, .slice (some ⟨vb, 0, none⟩) Z.length vc, .slice la' pl.length lc', .slice da' dr.length dc'⟩ y :: scrP (some ⟨vb, 0, none⟩) vc Z :: C :: row b1 #[.int .i64 t, .int .i64 m, .slice (some ⟨pb, po, none⟩) X.length pc, .slice (some ⟨bl, ol, none⟩) pl.length lc, .slice da dr.length dc] 25 :: A :: F)) ?_ ?_
       ·skip
        refine ⟨?_⟩
        refine Drw.oft (.calm 0 (.calm 1 (.calm 2 (.calm 3 (.calm 4 (.calm 5 (.calm 6 (.act 7 true (.pure 8 (.pure 9 (.pure 10 (.pure 12 (.pure 13 (.pure 14 (.two 11 true (.act 15 true (.pure 16 (.pure 17 (.act 18 true (.act 19 true (.act 20 true (.pure 21 .nil))))))) 15 true (.pure 16 (.pure 17 (.two 11 true (.act 18 true (.act 19 true (.act 20 true (.pure 21 .nil)))) 18 true (.two 11 true (.act 19 true (.act 20 true (.pure 21 .nil))) 19 true (.act 11 true (.act 20 true (.pure 21 .nil)))))))))))))))))))))) (by kernel_rfl) mixed (fun w => SL w _) H.drew ?_
        replace H := H.drew
        refine LdC.i 2 rfl (v := .slice ta6 y.tr.length tc6) rfl ?_
        refine MnC.cutS (lo := x.tr.length) (SL.slcLe H.up6) 6 rfl (.tmp 109) (.tmp 110) 28 (by rfl) (by kernel_rfl) (by kernel_rfl) (by rfl) (by rfl) (hpre) fun sa3 sk3 hR3 => ?_
        rw [evs_drop] at hR3
        have h1 := H.pick [7, 6, 0, 1, 2, 3, 4, 5, 8, 9, 10, 11, 12, 13] 14 (by decide)
        simp only [pk, nth, pkA, pkB, pkC, pkD, pkE, pkF] at h1
        refine Cl.sl (by kernel_rfl) (l_eventsN (List.length_drop ..) (by have := hky.tr; omega) Reader.slc hR3 h1) fun w H => ?_
        replace H := H.pick [2, 3, 4, 5, 6, 7, 1, 0, 8, 9, 10, 11, 12, 13] 14 (by decide)
        simp only [pk, nth, pkA, pkB, pkC, pkD, pkE, pkF] at H
        refine BB.yes rfl ?_
        refine ⟨.inl rfl, ?_⟩
        refine BB.no rfl ?_
        refine ⟨?_, ?_⟩
        ·skip
         have h1 := H.pick [9, 0, 1, 2, 3, 4, 5, 6, 7, 8, 10, 11, 12, 13] 14 (by decide)
         simp only [pk, nth, pkA, pkB, pkC, pkD, pkE, pkF] at h1
         refine Cl.sl (by kernel_rfl) (p_lenL hny hky h1) fun w H => ?_
         replace H := H.pick [1, 2, 3, 4, 5, 6, 7, 8, 9, 0, 10, 11, 12, 13] 14 (by decide)
         simp only [pk, nth, pkA, pkB, pkC, pkD, pkE, pkF] at H
         refine ⟨.inl rfl, ?_⟩
         refine H.ldi 2 rfl (v := .pointer (some ⟨crb6, 0, none⟩)) rfl ?_
         refine ⟨.inl rfl, ?_⟩
         refine H.ldi 0 rfl (v := .slice oa y.crew.length oc) rfl ?_
         refine ⟨.inl rfl, ?_⟩
         refine ⟨.inl rfl, ?_⟩
         refine BB.no (bne_self_eq_false _) ?_
         refine ⟨.inl rfl, ?_⟩
         exact ⟨(), ⟨rfl, trivial⟩, trivial, H⟩
        ·skip
         refine H.ldi 2 rfl (v := .pointer (some ⟨crb6, 0, none⟩)) rfl ?_
         refine ⟨.inl rfl, ?_⟩
         refine ⟨?_, ?_⟩
         ·skip
          have h1 := H.pick [9, 0, 1, 2, 3, 4, 5, 6, 7, 8, 10, 11, 12, 13] 14 (by decide)
          simp only [pk, nth, pkA, pkB, pkC, pkD, pkE, pkF] at h1
          refine Cl.sl (by kernel_rfl) (p_lenL hny hky h1) fun w H => ?_
          replace H := H.pick [1, 2, 3, 4, 5, 6, 7, 8, 9, 0, 10, 11, 12, 13] 14 (by decide)
          simp only [pk, nth, pkA, pkB, pkC, pkD, pkE, pkF] at H
          refine ⟨.inl rfl, ?_⟩
          refine H.ldi 0 rfl (v := .slice oa y.crew.length oc) rfl ?_
          refine ⟨.inl rfl, ?_⟩
          refine ⟨.inl rfl, ?_⟩
          refine BB.no (bne_self_eq_false _) ?_
          refine ⟨.inl rfl, ?_⟩
          exact ⟨(), ⟨rfl, trivial⟩, trivial, H⟩
         ·skip
          refine H.ldi 0 rfl (v := .slice oa y.crew.length oc) rfl ?_
          refine ⟨.inl rfl, ?_⟩
          refine ⟨?_, ?_⟩
          ·skip
           have h1 := H.pick [9, 0, 1, 2, 3, 4, 5, 6, 7, 8, 10, 11, 12, 13] 14 (by decide)
           simp only [pk, nth, pkA, pkB, pkC, pkD, pkE, pkF] at h1
           refine Cl.sl (by kernel_rfl) (p_lenL hny hky h1) fun w H => ?_
           replace H := H.pick [1, 2, 3, 4, 5, 6, 7, 8, 9, 0, 10, 11, 12, 13] 14 (by decide)
           simp only [pk, nth, pkA, pkB, pkC, pkD, pkE, pkF] at H
           refine ⟨.inl rfl, ?_⟩
           refine ⟨.inl rfl, ?_⟩
           refine BB.no (bne_self_eq_false _) ?_
           refine ⟨.inl rfl, ?_⟩
           exact ⟨(), ⟨rfl, trivial⟩, trivial, H⟩
          ·skip
           refine ⟨.inl rfl, ?_⟩
           have h1 := H.pick [9, 0, 1, 2, 3, 4, 5, 6, 7, 8, 10, 11, 12, 13] 14 (by decide)
           simp only [pk, nth, pkA, pkB, pkC, pkD, pkE, pkF] at h1
           refine Cl.sl (by kernel_rfl) (p_lenL hny hky h1) fun w H => ?_
           replace H := H.pick [1, 2, 3, 4, 5, 6, 7, 8, 9, 0, 10, 11, 12, 13] 14 (by decide)
           simp only [pk, nth, pkA, pkB, pkC, pkD, pkE, pkF] at H
           refine ⟨.inl rfl, ?_⟩
           refine BB.no (bne_self_eq_false _) ?_
           refine ⟨.inl rfl, ?_⟩
           exact ⟨(), ⟨rfl, trivial⟩, trivial, H⟩
       ·skip
        rintro _ s w ⟨hc, H⟩
        refine Cn.no ?_
        refine ⟨?_⟩
        refine H.ldi 2 rfl (v := .pointer (some ⟨crb6, 0, none⟩)) rfl ?_
        refine H.ldi 0 rfl (v := .slice oa y.crew.length oc) rfl ?_
        refine ⟨?_⟩
        refine den.loop (ι := Nat) [(2, 2), (14, 16), (135, 161)] (by kernel_rfl) (fun k => [(135, .int .i64 ↑k)]) (fun k w => k ≤ y.crew.length ∧ SL w (row crb6 #[.slice oa y.crew.length oc] 66 :: Slc 70 3 (.slice oa y.crew.length oc) y.crew.length (y.crew.flatMap One.cells) :: row rl #[.int .i64 t, .int .i64 m, .slice (some ⟨pb, po, none⟩) X.length pc, .slice (some ⟨bl, ol, none⟩) pl.length lc, .slice da dr.length dc, .pointer (some ⟨hb6, 0, none⟩), .pointer (some ⟨crb6, 0, none⟩), .slice cha6 y.M.length chc6, .int .i64 n0, .int .i64 n1, .int .i64 n2, .int .i64 n3, .int .i64 n4, .int .i64 n5, .int .i64 n6, .int .i64 n7, .slice ta6 y.tr.length tc6, .bool y.pan] 62 :: row hb6 #[.slice (some ⟨bl, ol, none⟩) pl.length lc, .slice da dr.length dc, .int .i64 ↑y.p, .int .i64 ↑y.d] 94 :: Slc 139 1 (.slice cha6 y.M.length chc6) y.M.length (pcs (ps6.map some)) :: RsP (ps6.map some) y.M :: Slc 36 8 (.slice ta6 y.tr.length tc6) y.tr.length (y.tr.flatMap Ev.cells) :: Slc 36 8 (.slice ka (y.tr.length - x.tr.length) kc) (y.tr.length - x.tr.length) ((y.tr.drop x.tr.length).flatMap Ev.cells) :: row b9 #[.int .i64 op.kind, .int .i64 op.a, .int .i64 op.b, .slice ca op.cases.length cc, .bool op.dflt] 44 :: LmP lm ⟨t, m, progsM X, pl, dr⟩ ⟨t, m, .slice (some ⟨vb, 0, none⟩) Z.length vc, .slice la' pl.length lc', .slice da' dr.length dc'⟩ y :: scrP (some ⟨vb, 0, none⟩) vc Z :: C :: row b1 #[.int .i64 t, .int .i64 m, .slice (some ⟨pb, po, none⟩) X.length pc, .slice (some ⟨bl, ol, none⟩) pl.length lc, .slice da dr.length dc] 25 :: A :: F)) (fun k => y.crew.length - k) 0 ⟨rfl, trivial⟩ ⟨Nat.zero_le _, H⟩ ?_
        rintro k s w ⟨hkk, H⟩
        have hob := Nat.lt_or_ge k y.crew.length
        rcases hob with hkl | hkl
        ·skip
         have hob : ∃ z, y.crew[k]? = some z := ⟨_, List.getElem?_eq_getElem hkl⟩
         obtain ⟨z, hone⟩ := hob
         have hob := SL.slcAddr (H.up1) (by omega)
         obtain ⟨ob, rfl⟩ := hob
         refine ⟨?_⟩
         refine BB.yes (decide_eq_true (by omega)) ?_
         refine Cn.yes ?_
         refine ⟨?_⟩
         refine ⟨?_⟩
         refine ⟨?_⟩
         have h1 := H.pick [9, 0, 1, 2, 3, 4, 5, 6, 7, 8, 10, 11, 12, 13] 14 (by decide)
         simp only [pk, nth, pkA, pkB, pkC, pkD, pkE, pkF] at h1
         have hq := p_stateL hny hky (k : Int) h1
         rw [stateF_full hone] at hq
         refine Cl.sl (by kernel_rfl) hq fun w H => ?_
         replace H := H.pick [1, 2, 3, 4, 5, 6, 7, 8, 9, 0, 10, 11, 12, 13] 14 (by decide)
         simp only [pk, nth, pkA, pkB, pkC, pkD, pkE, pkF] at H
         refine ⟨?_⟩
         refine BB.no rfl ?_
         refine H.ldi 2 rfl (v := .pointer (some ⟨crb6, 0, none⟩)) rfl ?_
         refine H.ldi 0 rfl (v := .slice (some ⟨ob, 0, none⟩) y.crew.length oc) rfl ?_
         refine Ix.at0 k 3 (by kernel_rfl) (rfl) (hkl) ?_
         refine H.ldS 1 rfl (v := .int .i64 z.state) ((ones_at hone 2 (by decide)).trans rfl) ?_
         refine BB.no (bne_self_eq_false _) ?_
         refine Cn.no ?_
         refine ⟨?_⟩
         refine IW.by (wrap_id (n := ↑k + 1) (by omega) (by omega)) ?_
         exact ⟨k + 1, ⟨rfl, trivial⟩, ⟨(by omega : k + 1 ≤ y.crew.length), H⟩, (show y.crew.length - (k + 1) < y.crew.length - k by omega)⟩
        ·skip
         have hob : k = y.crew.length := by omega
         obtain rfl := hob
         refine ⟨?_⟩
         refine BB.no (decide_eq_false (by omega)) ?_
         refine Cn.no ?_
         refine ⟨?_⟩
         refine IW.by (wrap_id (n := ↑i + 1) (by omega) (by omega)) ?_
         have H0 := H
         replace H := ones_shut H0
         have H0 := H.pick [1, 2, 0, 3, 4, 5, 6, 7, 8, 9, 10, 11, 12] 13 (by decide)
         simp only [pk, nth, pkA, pkB, pkC, pkD, pkE, pkF] at H0
         replace H := rl_shut (x := y) hl6 rfl hny H0
         have hxy : runL ⟨t, m, progsM X, pl, dr⟩ (i + 1) = y := by show stepL ⟨t, m, progsM X, pl, dr⟩ (runL ⟨t, m, progsM X, pl, dr⟩ i) = y; rw [hx, hy]
         rw [← hxy] at H
         exact ⟨i + 1, ⟨rfl, trivial⟩, ⟨(by omega : i + 1 ≤ pl.length + 1), H.pick [6, 3, 4, 0, 7] 8 (by decide)⟩, (show pl.length + 1 - (i + 1) < pl.length + 1 - i by omega)⟩
      ·skip
       refine Cn.no ?_
       have H0 := H.pick [5, 0, 1, 2, 3, 4, 6] 7 (by decide)
       simp only [pk, nth, pkA, pkB, pkC, pkD, pkE, pkF] at H0
       replace H := H0
       have hob := rl_open (x := x) hn H
       obtain ⟨hb7, crb7, cha7, chc7, ta7, tc7, ps7, hl7, H⟩ := hob
       refine ⟨?_⟩
       refine H.ldi 0 rfl (v := .slice ta7 x.tr.length tc7) rfl ?_
       have H0 := H
       replace H := rl_shut (x := x) hl7 rfl hn H0
       refine ⟨?_⟩
       have h1 := H.pick [2, 3, 0, 1, 4, 5, 6] 7 (by decide)
       simp only [pk, nth, pkA, pkB, pkC, pkD, pkE, pkF] at h1
       refine Cl.by (by kernel_rfl) (p_step (sc := ⟨t, m, progsM X, pl, dr⟩) hn hk (by omega) hZ.symm hr.ok hzl hn1 hXZ hr.p0 hr.d0 h1) ?_
       rintro _ w ⟨ka, kc, rfl, H⟩
       refine ⟨_, rfl, ?_⟩
       replace H := H.pick [0, 3, 4, 1, 2, 5, 6, 7] 8 (by decide)
       simp only [pk, nth, pkA, pkB, pkC, pkD, pkE, pkF] at H
       refine ⟨?_⟩
       have h1 := H.pick [1, 7, 0, 2, 3, 4, 5, 6] 8 (by decide)
       simp only [pk, nth, pkA, pkB, pkC, pkD, pkE, pkF] at h1
       refine Cl.sl (by kernel_rfl) (r_step (s := ⟨t, m, progsM X, pl, dr⟩) (pl := pl) (dr := dr) (np := X.length) (k := i * 1100) rfl hXA rfl hL (fun z hz => (hgp z hz).1) rfl hD (fun z hz => (hgd z hz).1) (by unfold progsM; rw [List.length_map]) hn1 hr.ok (by omega) hd hk (by omega) h1) fun w H => ?_
       replace H := H.pick [2, 0, 3, 4, 5, 6, 7, 1] 8 (by decide)
       simp only [pk, nth, pkA, pkB, pkC, pkD, pkE, pkF] at H
       have hky := hk.step (s := ⟨t, m, progsM X, pl, dr⟩) hr.ok (by unfold progsM; rw [List.length_map]) hn1
       have hpre := (pre_step ⟨t, m, progsM X, pl, dr⟩ x).length_le
       have hob : ∃ y, stepL ⟨t, m, progsM X, pl, dr⟩ x = y := ⟨_, rfl⟩
       obtain ⟨y, hy⟩ := hob
       rw [hy] at H hky hpre
       have hcrl := hky.cl
       have hob := eight hky.n8
       obtain ⟨n0, n1, n2, n3, n4, n5, n6, n7, hny⟩ := hob
       simp only [hy]
       have H0 := H.pick [1, 0, 2, 3, 4, 5, 6, 7] 8 (by decide)
       simp only [pk, nth, pkA, pkB, pkC, pkD, pkE, pkF] at H0
       replace H := H0
       have hob := rl_open (x := y) hny H
       obtain ⟨hb8, crb8, cha8, chc8, ta8, tc8, ps8, hl8, H⟩ := hob
       have H0 := H.pick [2, 0, 1, 3, 4, 5, 6, 7, 8, 9, 10, 11, 12] 13 (by decide)
       simp only [pk, nth, pkA, pkB, pkC, pkD, pkE, pkF] at H0
       have hob := ones_open H0
       obtain ⟨ov, H⟩ := hob
       have hob := SL.slcForm H.up1
       obtain ⟨oa, oc, rfl⟩ := hob
       refine BB.k ?_
       refine RgX.cut (id := 22) (ι := Unit) [(105, 126)] (by kernel_rfl) (fun _ => [(126, .bool false)]) (fun _ w => True ∧ SL w (row crb8 #[.slice oa y.crew.length oc] 66 :: Slc 70 3 (.slice oa y.crew.length oc) y.crew.length (y.crew.flatMap One.cells) :: row rl #[.int .i64 t, .int .i64 m, .slice (some ⟨pb, po, none⟩) X.length pc, .slice (some ⟨bl, ol, none⟩) pl.length lc, .slice da dr.length dc, .pointer (some ⟨hb8, 0, none⟩), .pointer (some ⟨crb8, 0, none⟩), .slice cha8 y.M.length chc8, .int .i64 n0, .int .i64 n1, .int .i64 n2, .int .i64 n3, .int .i64 n4, .int .i64 n5, .int .i64 n6, .int .i64 n7, .slice ta8 y.tr.length tc8, .bool y.pan] 62 :: row hb8 #[.slice (some ⟨bl, ol, none⟩) pl.length lc, .slice da dr.length dc, .int .i64 ↑y.p, .int .i64 ↑y.d] 94 :: Slc 139 1 (.slice cha8 y.M.length chc8) y.M.length (pcs (ps8.map some)) :: RsP (ps8.map some) y.M :: Slc 36 8 (.slice ta8 y.tr.length tc8) y.tr.length (y.tr.flatMap Ev.cells) :: Slc 36 8 (.slice ka (y.tr.length - x.tr.length) kc) (y.tr.length - x.tr.length) ((y.tr.drop x.tr.length).flatMap Ev.cells) :: row b9 #[.int .i64 op.kind, .int .i64 op.a, .int .i64 op.b, .slice ca op.cases.length cc, .bool op.dflt] 44 :: LmP lm ⟨t, m, progsM X, pl, dr⟩ ⟨t, m, .slice (some ⟨vb, 0, none⟩) Z.length vc, .slice la' pl.length lc', .slice da' dr.length dc'⟩ y :: scrP (some ⟨vb, 0, none⟩) vc Z :: C :: row b1 #[.int .i64 t, .int .i64 m, .slice (some ⟨pb, po, none⟩) X.length pc, .slice (some ⟨bl, ol, none⟩) pl.length lc, .slice da dr.length dc] 25 :: A :: F)) ?_ ?_
       ·skip
        refine ⟨?_⟩
        refine Drw.oft (.calm 0 (.calm 1 (.calm 2 (.calm 3 (.calm 4 (.calm 5 (.calm 6 (.act 7 true (.pure 8 (.pure 9 (.pure 10 (.pure 12 (.pure 13 (.pure 14 (.two 11 true (.act 15 true (.pure 16 (.pure 17 (.act 18 true (.act 19 true (.act 20 true (.pure 21 .nil))))))) 15 true (.pure 16 (.pure 17 (.two 11 true (.act 18 true (.act 19 true (.act 20 true (.pure 21 .nil)))) 18 true (.two 11 true (.act 19 true (.act 20 true (.pure 21 .nil))) 19 true (.act 11 true (.act 20 true (.pure 21 .nil)))))))))))))))))))))) (by kernel_rfl) mixed (fun w => SL w _) H.drew ?_
        replace H := H.drew
        refine LdC.i 2 rfl (v := .slice ta8 y.tr.length tc8) rfl ?_
        refine MnC.cutS (lo := x.tr.length) (SL.slcLe H.up6) 6 rfl (.tmp 109) (.tmp 110) 28 (by rfl) (by kernel_rfl) (by kernel_rfl) (by rfl) (by rfl) (hpre) fun sa4 sk4 hR4 => ?_
        rw [evs_drop] at hR4
        have h1 := H.pick [7, 6, 0, 1, 2, 3, 4, 5, 8, 9, 10, 11, 12, 13] 14 (by decide)
        simp only [pk, nth, pkA, pkB, pkC, pkD, pkE, pkF] at h1
        refine Cl.sl (by kernel_rfl) (l_eventsN (List.length_drop ..) (by have := hky.tr; omega) Reader.slc hR4 h1) fun w H => ?_
        replace H := H.pick [2, 3, 4, 5, 6, 7, 1, 0, 8, 9, 10, 11, 12, 13] 14 (by decide)
        simp only [pk, nth, pkA, pkB, pkC, pkD, pkE, pkF] at H
        refine BB.yes rfl ?_
        refine ⟨.inl rfl, ?_⟩
        refine BB.no rfl ?_
        refine ⟨?_, ?_⟩
        ·skip
         have h1 := H.pick [9, 0, 1, 2, 3, 4, 5, 6, 7, 8, 10, 11, 12, 13] 14 (by decide)
         simp only [pk, nth, pkA, pkB, pkC, pkD, pkE, pkF] at h1
         refine Cl.sl (by kernel_rfl) (p_lenL hny hky h1) fun w H => ?_
         replace H := H.pick [1, 2, 3, 4, 5, 6, 7, 8, 9, 0, 10, 11, 12, 13] 14 (by decide)
         simp only [pk, nth, pkA, pkB, pkC, pkD, pkE, pkF] at H
         refine ⟨.inl rfl, ?_⟩
         refine H.ldi 2 rfl (v := .pointer (some ⟨crb8, 0, none⟩)) rfl ?_
         refine ⟨.inl rfl, ?_⟩
         refine H.ldi 0 rfl (v := .slice oa y.crew.length oc) rfl ?_
         refine ⟨.inl rfl, ?_⟩
         refine ⟨.inl rfl, ?_⟩
         refine BB.no (bne_self_eq_false _) ?_
         refine ⟨.inl rfl, ?_⟩
         exact ⟨(), ⟨rfl, trivial⟩, trivial, H⟩
        ·skip
         refine H.ldi 2 rfl (v := .pointer (some ⟨crb8, 0, none⟩)) rfl ?_
         refine ⟨.inl rfl, ?_⟩
         refine ⟨?_, ?_⟩
         ·skip
          have h1 := H.pick [9, 0, 1, 2, 3, 4, 5, 6, 7, 8, 10, 11, 12, 13] 14 (by decide)
          simp only [pk, nth, pkA, pkB, pkC, pkD, pkE, pkF] at h1
          refine Cl.sl (by kernel_rfl) (p_lenL hny hky h1) fun w H => ?_
          replace H := H.pick [1, 2, 3, 4, 5, 6, 7, 8, 9, 0, 10, 11, 12, 13] 14 (by decide)
          simp only [pk, nth, pkA, pkB, pkC, pkD, pkE, pkF] at H
          refine ⟨.inl rfl, ?_⟩
          refine H.ldi 0 rfl (v := .slice oa y.crew.length oc) rfl ?_
          refine ⟨.inl rfl, ?_⟩
          refine ⟨.inl rfl, ?_⟩
          refine BB.no (bne_self_eq_false _) ?_
          refine ⟨.inl rfl, ?_⟩
          exact ⟨(), ⟨rfl, trivial⟩, trivial, H⟩
         ·skip
          refine H.ldi 0 rfl (v := .slice oa y.crew.length oc) rfl ?_
          refine ⟨.inl rfl, ?_⟩
          refine ⟨?_, ?_⟩
          ·skip
           have h1 := H.pick [9, 0, 1, 2, 3, 4, 5, 6, 7, 8, 10, 11, 12, 13] 14 (by decide)
           simp only [pk, nth, pkA, pkB, pkC, pkD, pkE, pkF] at h1
           refine Cl.sl (by kernel_rfl) (p_lenL hny hky h1) fun w H => ?_
           replace H := H.pick [1, 2, 3, 4, 5, 6, 7, 8, 9, 0, 10, 11, 12, 13] 14 (by decide)
           simp only [pk, nth, pkA, pkB, pkC, pkD, pkE, pkF] at H
           refine ⟨.inl rfl, ?_⟩
           refine ⟨.inl rfl, ?_⟩
           refine BB.no (bne_self_eq_false _) ?_
           refine ⟨.inl rfl, ?_⟩
           exact ⟨(), ⟨rfl, trivial⟩, trivial, H⟩
          ·skip
           refine ⟨.inl rfl, ?_⟩
           have h1 := H.pick [9, 0, 1, 2, 3, 4, 5, 6, 7, 8, 10, 11, 12, 13] 14 (by decide)
           simp only [pk, nth, pkA, pkB, pkC, pkD, pkE, pkF] at h1
           refine Cl.sl (by kernel_rfl) (p_lenL hny hky h1) fun w H => ?_
           replace H := H.pick [1, 2, 3, 4, 5, 6, 7, 8, 9, 0, 10, 11, 12, 13] 14 (by decide)
           simp only [pk, nth, pkA, pkB, pkC, pkD, pkE, pkF] at H
           refine ⟨.inl rfl, ?_⟩
           refine BB.no (bne_self_eq_false _) ?_
           refine ⟨.inl rfl, ?_⟩
           exact ⟨(), ⟨rfl, trivial⟩, trivial, H⟩
       ·skip
        rintro _ s w ⟨hc, H⟩
        refine Cn.no ?_
        refine ⟨?_⟩
        refine H.ldi 2 rfl (v := .pointer (some ⟨crb8, 0, none⟩)) rfl ?_
        refine H.ldi 0 rfl (v := .slice oa y.crew.length oc) rfl ?_
        refine ⟨?_⟩
        refine den.loop (ι := Nat) [(2, 2), (14, 16), (135, 161)] (by kernel_rfl) (fun k => [(135, .int .i64 ↑k)]) (fun k w => k ≤ y.crew.length ∧ SL w (row crb8 #[.slice oa y.crew.length oc] 66 :: Slc 70 3 (.slice oa y.crew.length oc) y.crew.length (y.crew.flatMap One.cells) :: row rl #[.int .i64 t, .int .i64 m, .slice (some ⟨pb, po, none⟩) X.length pc, .slice (some ⟨bl, ol, none⟩) pl.length lc, .slice da dr.length dc, .pointer (some ⟨hb8, 0, none⟩), .pointer (some ⟨crb8, 0, none⟩), .slice cha8 y.M.length chc8, .int .i64 n0, .int .i64 n1, .int .i64 n2, .int .i64 n3, .int .i64 n4, .int .i64 n5, .int .i64 n6, .int .i64 n7, .slice ta8 y.tr.length tc8, .bool y.pan] 62 :: row hb8 #[.slice (some ⟨bl, ol, none⟩) pl.length lc, .slice da dr.length dc, .int .i64 ↑y.p, .int .i64 ↑y.d] 94 :: Slc 139 1 (.slice cha8 y.M.length chc8) y.M.length (pcs (ps8.map some)) :: RsP (ps8.map some) y.M :: Slc 36 8 (.slice ta8 y.tr.length tc8) y.tr.length (y.tr.flatMap Ev.cells) :: Slc 36 8 (.slice ka (y.tr.length - x.tr.length) kc) (y.tr.length - x.tr.length) ((y.tr.drop x.tr.length).flatMap Ev.cells) :: row b9 #[.int .i64 op.kind, .int .i64 op.a, .int .i64 op.b, .slice ca op.cases.length cc, .bool op.dflt] 44 :: LmP lm ⟨t, m, progsM X, pl, dr⟩ ⟨t, m, .slice (some ⟨vb, 0, none⟩) Z.length vc, .slice la' pl.length lc', .slice da' dr.length dc'⟩ y :: scrP (some ⟨vb, 0, none⟩) vc Z :: C :: row b1 #[.int .i64 t, .int .i64 m, .slice (some ⟨pb, po, none⟩) X.length pc, .slice (some ⟨bl, ol, none⟩) pl.length lc, .slice da dr.length dc] 25 :: A :: F)) (fun k => y.crew.length - k) 0 ⟨rfl, trivial⟩ ⟨Nat.zero_le _, H⟩ ?_
        rintro k s w ⟨hkk, H⟩
        have hob := Nat.lt_or_ge k y.crew.length
        rcases hob with hkl | hkl
        ·skip
         have hob : ∃ z, y.crew[k]? = some z := ⟨_, List.getElem?_eq_getElem hkl⟩
         obtain ⟨z, hone⟩ := hob
         have hob := SL.slcAddr (H.up1) (by omega)
         obtain ⟨ob, rfl⟩ := hob
         refine ⟨?_⟩
         refine BB.yes (decide_eq_true (by omega)) ?_
         refine Cn.yes ?_
         refine ⟨?_⟩
         refine ⟨?_⟩
         refine ⟨?_⟩
         have h1 := H.pick [9, 0, 1, 2, 3, 4, 5, 6, 7, 8, 10, 11, 12, 13] 14 (by decide)
         simp only [pk, nth, pkA, pkB, pkC, pkD, pkE, pkF] at h1
         have hq := p_stateL hny hky (k : Int) h1
         rw [stateF_full hone] at hq
         refine Cl.sl (by kernel_rfl) hq fun w H => ?_
         replace H := H.pick [1, 2, 3, 4, 5, 6, 7, 8, 9, 0, 10, 11, 12, 13] 14 (by decide)
         simp only [pk, nth, pkA, pkB, pkC, pkD, pkE, pkF] at H
         refine ⟨?_⟩
         refine BB.no rfl ?_
         refine H.ldi 2 rfl (v := .pointer (some ⟨crb8, 0, none⟩)) rfl ?_
         refine H.ldi 0 rfl (v := .slice (some ⟨ob, 0, none⟩) y.crew.length oc) rfl ?_
         refine Ix.at0 k 3 (by kernel_rfl) (rfl) (hkl) ?_
         refine H.ldS 1 rfl (v := .int .i64 z.state) ((ones_at hone 2 (by decide)).trans rfl) ?_
         refine BB.no (bne_self_eq_false _) ?_
         refine Cn.no ?_
         refine ⟨?_⟩
         refine IW.by (wrap_id (n := ↑k + 1) (by omega) (by omega)) ?_
         exact ⟨k + 1, ⟨rfl, trivial⟩, ⟨(by omega : k + 1 ≤ y.crew.length), H⟩, (show y.crew.length - (k + 1) < y.crew.length - k by omega)⟩
        ·skip
         have hob : k = y.crew.length := by omega
         obtain rfl := hob
         refine ⟨?_⟩
         refine BB.no (decide_eq_false (by omega)) ?_
         refine Cn.no ?_
         refine ⟨?_⟩
         refine IW.by (wrap_id (n := ↑i + 1) (by omega) (by omega)) ?_
         have H0 := H
         replace H := ones_shut H0
         have H0 := H.pick [1, 2, 0, 3, 4, 5, 6, 7, 8, 9, 10, 11, 12] 13 (by decide)
         simp only [pk, nth, pkA, pkB, pkC, pkD, pkE, pkF] at H0
         replace H := rl_shut (x := y) hl8 rfl hny H0
         have hxy : runL ⟨t, m, progsM X, pl, dr⟩ (i + 1) = y := by show stepL ⟨t, m, progsM X, pl, dr⟩ (runL ⟨t, m, progsM X, pl, dr⟩ i) = y; rw [hx, hy]
         rw [← hxy] at H
         exact ⟨i + 1, ⟨rfl, trivial⟩, ⟨(by omega : i + 1 ≤ pl.length + 1), H.pick [6, 3, 4, 0, 7] 8 (by decide)⟩, (show pl.length + 1 - (i + 1) < pl.length + 1 - i by omega)⟩
    ·skip
     refine ⟨?_⟩
     refine H.ldi 0 rfl (v := .slice la pl.length lc) rfl ?_
     refine BB.yes (decide_eq_true (by omega)) ?_
     refine Cn.yes ?_
     refine ⟨?_⟩
     refine ⟨?_⟩
     have h1 := H.pick [1, 0, 2, 3, 4] 5 (by decide)
     simp only [pk, nth, pkA, pkB, pkC, pkD, pkE, pkF] at h1
     refine Cl.sl (by kernel_rfl) (p_next_over hn hk hv h1) fun w H => ?_
     replace H := H.pick [1, 0, 2, 3, 4] 5 (by decide)
     simp only [pk, nth, pkA, pkB, pkC, pkD, pkE, pkF] at H
     refine Nw.as #[.int .i64 0, .int .i64 0, .int .i64 0, .slice none 0 0, .bool false] 44 rfl H fun b9 w H => ?_
     refine H.st0 (cs' := #[.int .i64 0, .int .i64 0, .int .i64 0, .slice none 0 0, .bool false]) rfl rfl rfl fun w H => ?_
     refine H.st0 (cs' := #[.int .i64 0, .int .i64 0, .int .i64 0, .slice none 0 0, .bool false]) rfl rfl rfl fun w H => ?_
     refine H.st0 (cs' := #[.int .i64 0, .int .i64 0, .int .i64 0, .slice none 0 0, .bool false]) rfl rfl rfl fun w H => ?_
     refine H.st0 (cs' := #[.int .i64 0, .int .i64 0, .int .i64 0, .slice none 0 0, .bool false]) rfl rfl rfl fun w H => ?_
     refine H.st0 (cs' := #[.int .i64 0, .int .i64 0, .int .i64 0, .slice none 0 0, .bool false]) rfl rfl rfl fun w H => ?_
     refine ⟨?_⟩
     have h1 := H.pick [4, 0, 1, 2, 3, 5] 6 (by decide)
     simp only [pk, nth, pkA, pkB, pkC, pkD, pkE, pkF] at h1
     refine Cl.sl (by kernel_rfl) (r_verdict (s := ⟨t, m, progsM X, pl, dr⟩) (x := x) rfl h1) fun w H => ?_
     replace H := H.pick [1, 2, 3, 4, 0, 5] 6 (by decide)
     simp only [pk, nth, pkA, pkB, pkC, pkD, pkE, pkF] at H
     refine BB.no (beq_eq_false_iff_ne.2 hv) ?_
     refine BB.no rfl ?_
     have h1 := H.pick [2, 0, 1, 3, 4, 5] 6 (by decide)
     simp only [pk, nth, pkA, pkB, pkC, pkD, pkE, pkF] at h1
     refine Cl.sl (by kernel_rfl) (p_verdict hn hk h1) fun w H => ?_
     replace H := H.pick [1, 2, 0, 3, 4, 5] 6 (by decide)
     simp only [pk, nth, pkA, pkB, pkC, pkD, pkE, pkF] at H
     have h1 := H.pick [4, 0, 1, 2, 3, 5] 6 (by decide)
     simp only [pk, nth, pkA, pkB, pkC, pkD, pkE, pkF] at h1
     refine Cl.sl (by kernel_rfl) (r_verdict (s := ⟨t, m, progsM X, pl, dr⟩) (x := x) rfl h1) fun w H => ?_
     replace H := H.pick [1, 2, 3, 4, 0, 5] 6 (by decide)
     simp only [pk, nth, pkA, pkB, pkC, pkD, pkE, pkF] at H
     refine BB.no (bne_self_eq_false _) ?_
     refine Cn.no ?_
     refine ⟨?_⟩
     refine Cn.no ?_
     have H0 := H.pick [4, 0, 1, 2, 3, 5] 6 (by decide)
     simp only [pk, nth, pkA, pkB, pkC, pkD, pkE, pkF] at H0
     replace H := H0
     have hob := rl_open (x := x) hn H
     obtain ⟨hb9, crb9, cha9, chc9, ta9, tc9, ps9, hl9, H⟩ := hob
     refine ⟨?_⟩
     refine H.ldi 0 rfl (v := .slice ta9 x.tr.length tc9) rfl ?_
     have H0 := H
     replace H := rl_shut (x := x) hl9 rfl hn H0
     refine ⟨?_⟩
     have h1 := H.pick [3, 4, 0, 1, 2, 5] 6 (by decide)
     simp only [pk, nth, pkA, pkB, pkC, pkD, pkE, pkF] at h1
     refine Cl.by (by kernel_rfl) (p_step (sc := ⟨t, m, progsM X, pl, dr⟩) hn hk (by omega) hZ.symm hr.ok hzl hn1 hXZ hr.p0 hr.d0 h1) ?_
     rintro _ w ⟨ka, kc, rfl, H⟩
     refine ⟨_, rfl, ?_⟩
     replace H := H.pick [0, 3, 4, 5, 1, 2, 6] 7 (by decide)
     simp only [pk, nth, pkA, pkB, pkC, pkD, pkE, pkF] at H
     refine ⟨?_⟩
     have h1 := H.pick [1, 6, 0, 2, 3, 4, 5] 7 (by decide)
     simp only [pk, nth, pkA, pkB, pkC, pkD, pkE, pkF] at h1
     refine Cl.sl (by kernel_rfl) (r_step (s := ⟨t, m, progsM X, pl, dr⟩) (pl := pl) (dr := dr) (np := X.length) (k := i * 1100) rfl hXA rfl hL (fun z hz => (hgp z hz).1) rfl hD (fun z hz => (hgd z hz).1) (by unfold progsM; rw [List.length_map]) hn1 hr.ok (by omega) hd hk (by omega) h1) fun w H => ?_
     replace H := H.pick [2, 0, 3, 4, 5, 6, 1] 7 (by decide)
     simp only [pk, nth, pkA, pkB, pkC, pkD, pkE, pkF] at H
     have hky := hk.step (s := ⟨t, m, progsM X, pl, dr⟩) hr.ok (by unfold progsM; rw [List.length_map]) hn1
     have hpre := (pre_step ⟨t, m, progsM X, pl, dr⟩ x).length_le
     have hob : ∃ y, stepL ⟨t, m, progsM X, pl, dr⟩ x = y := ⟨_, rfl⟩
     obtain ⟨y, hy⟩ := hob
     rw [hy] at H hky hpre
     have hcrl := hky.cl
     have hob := eight hky.n8
     obtain ⟨n0, n1, n2, n3, n4, n5, n6, n7, hny⟩ := hob
     simp only [hy]
     have H0 := H.pick [1, 0, 2, 3, 4, 5, 6] 7 (by decide)
     simp only [pk, nth, pkA, pkB, pkC, pkD, pkE, pkF] at H0
     replace H := H0
     have hob := rl_open (x := y) hny H
     obtain ⟨hb10, crb10, cha10, chc10, ta10, tc10, ps10, hl10, H⟩ := hob
     have H0 := H.pick [2, 0, 1, 3, 4, 5, 6, 7, 8, 9, 10, 11] 12 (by decide)
     simp only [pk, nth, pkA, pkB, pkC, pkD, pkE, pkF] at H0
     have hob := ones_open H0
     obtain ⟨ov, H⟩ := hob
     have hob := SL.slcForm H.up1
     obtain ⟨oa, oc, rfl⟩ := hob
     refine BB.k ?_
     refine RgX.cut (id := 22) (ι := Unit) [(105, 126)] (by kernel_rfl) (fun _ => [(126, .bool false)]) (fun _ w => True ∧ SL w (row crb10 #[.slice oa y.crew.length oc] 66 :: Slc 70 3 (.slice oa y.crew.length oc) y.crew.length (y.crew.flatMap One.cells) :: row rl #[.int .i64 t, .int .i64 m, .slice (some ⟨pb, po, none⟩) X.length pc, .slice la pl.length lc, .slice da dr.length dc, .pointer (some ⟨hb10, 0, none⟩), .pointer (some ⟨crb10, 0, none⟩), .slice cha10 y.M.length chc10, .int .i64 n0, .int .i64 n1, .int .i64 n2, .int .i64 n3, .int .i64 n4, .int .i64 n5, .int .i64 n6, .int .i64 n7, .slice ta10 y.tr.length tc10, .bool y.pan] 62 :: row hb10 #[.slice la pl.length lc, .slice da dr.length dc, .int .i64 ↑y.p, .int .i64 ↑y.d] 94 :: Slc 139 1 (.slice cha10 y.M.length chc10) y.M.length (pcs (ps10.map some)) :: RsP (ps10.map some) y.M :: Slc 36 8 (.slice ta10 y.tr.length tc10) y.tr.length (y.tr.flatMap Ev.cells) :: Slc 36 8 (.slice ka (y.tr.length - x.tr.length) kc) (y.tr.length - x.tr.length) ((y.tr.drop x.tr.length).flatMap Ev.cells) :: row b9 #[.int .i64 0, .int .i64 0, .int .i64 0, .slice none 0 0, .bool false] 44 :: row b1 #[.int .i64 t, .int .i64 m, .slice (some ⟨pb, po, none⟩) X.length pc, .slice la pl.length lc, .slice da dr.length dc] 25 :: LmP lm ⟨t, m, progsM X, pl, dr⟩ ⟨t, m, .slice (some ⟨vb, 0, none⟩) Z.length vc, .slice la' pl.length lc', .slice da' dr.length dc'⟩ y :: scrP (some ⟨vb, 0, none⟩) vc Z :: A :: F)) ?_ ?_
     ·skip
      refine ⟨?_⟩
      refine Drw.oft (.calm 0 (.calm 1 (.calm 2 (.calm 3 (.calm 4 (.calm 5 (.calm 6 (.act 7 true (.pure 8 (.pure 9 (.pure 10 (.pure 12 (.pure 13 (.pure 14 (.two 11 true (.act 15 true (.pure 16 (.pure 17 (.act 18 true (.act 19 true (.act 20 true (.pure 21 .nil))))))) 15 true (.pure 16 (.pure 17 (.two 11 true (.act 18 true (.act 19 true (.act 20 true (.pure 21 .nil)))) 18 true (.two 11 true (.act 19 true (.act 20 true (.pure 21 .nil))) 19 true (.act 11 true (.act 20 true (.pure 21 .nil)))))))))))))))))))))) (by kernel_rfl) mixed (fun w => SL w _) H.drew ?_
      replace H := H.drew
      refine LdC.i 2 rfl (v := .slice ta10 y.tr.length tc10) rfl ?_
      refine MnC.cutS (lo := x.tr.length) (SL.slcLe H.up6) 6 rfl (.tmp 109) (.tmp 110) 28 (by rfl) (by kernel_rfl) (by kernel_rfl) (by rfl) (by rfl) (hpre) fun sa5 sk5 hR5 => ?_
      rw [evs_drop] at hR5
      have h1 := H.pick [7, 6, 0, 1, 2, 3, 4, 5, 8, 9, 10, 11, 12] 13 (by decide)
      simp only [pk, nth, pkA, pkB, pkC, pkD, pkE, pkF] at h1
      refine Cl.sl (by kernel_rfl) (l_eventsN (List.length_drop ..) (by have := hky.tr; omega) Reader.slc hR5 h1) fun w H => ?_
      replace H := H.pick [2, 3, 4, 5, 6, 7, 1, 0, 8, 9, 10, 11, 12] 13 (by decide)
      simp only [pk, nth, pkA, pkB, pkC, pkD, pkE, pkF] at H
      refine BB.yes rfl ?_
      refine ⟨.inl rfl, ?_⟩
      refine BB.no rfl ?_
      refine ⟨?_, ?_⟩
      ·skip
       have h1 := H.pick [10, 0, 1, 2, 3, 4, 5, 6, 7, 8, 9, 11, 12] 13 (by decide)
       simp only [pk, nth, pkA, pkB, pkC, pkD, pkE, pkF] at h1
       refine Cl.sl (by kernel_rfl) (p_lenL hny hky h1) fun w H => ?_
       replace H := H.pick [1, 2, 3, 4, 5, 6, 7, 8, 9, 10, 0, 11, 12] 13 (by decide)
       simp only [pk, nth, pkA, pkB, pkC, pkD, pkE, pkF] at H
       refine ⟨.inl rfl, ?_⟩
       refine H.ldi 2 rfl (v := .pointer (some ⟨crb10, 0, none⟩)) rfl ?_
       refine ⟨.inl rfl, ?_⟩
       refine H.ldi 0 rfl (v := .slice oa y.crew.length oc) rfl ?_
       refine ⟨.inl rfl, ?_⟩
       refine ⟨.inl rfl, ?_⟩
       refine BB.no (bne_self_eq_false _) ?_
       refine ⟨.inl rfl, ?_⟩
       exact ⟨(), ⟨rfl, trivial⟩, trivial, H⟩
      ·skip
       refine H.ldi 2 rfl (v := .pointer (some ⟨crb10, 0, none⟩)) rfl ?_
       refine ⟨.inl rfl, ?_⟩
       refine ⟨?_, ?_⟩
       ·skip
        have h1 := H.pick [10, 0, 1, 2, 3, 4, 5, 6, 7, 8, 9, 11, 12] 13 (by decide)
        simp only [pk, nth, pkA, pkB, pkC, pkD, pkE, pkF] at h1
        refine Cl.sl (by kernel_rfl) (p_lenL hny hky h1) fun w H => ?_
        replace H := H.pick [1, 2, 3, 4, 5, 6, 7, 8, 9, 10, 0, 11, 12] 13 (by decide)
        simp only [pk, nth, pkA, pkB, pkC, pkD, pkE, pkF] at H
        refine ⟨.inl rfl, ?_⟩
        refine H.ldi 0 rfl (v := .slice oa y.crew.length oc) rfl ?_
        refine ⟨.inl rfl, ?_⟩
        refine ⟨.inl rfl, ?_⟩
        refine BB.no (bne_self_eq_false _) ?_
        refine ⟨.inl rfl, ?_⟩
        exact ⟨(), ⟨rfl, trivial⟩, trivial, H⟩
       ·skip
        refine H.ldi 0 rfl (v := .slice oa y.crew.length oc) rfl ?_
        refine ⟨.inl rfl, ?_⟩
        refine ⟨?_, ?_⟩
        ·skip
         have h1 := H.pick [10, 0, 1, 2, 3, 4, 5, 6, 7, 8, 9, 11, 12] 13 (by decide)
         simp only [pk, nth, pkA, pkB, pkC, pkD, pkE, pkF] at h1
         refine Cl.sl (by kernel_rfl) (p_lenL hny hky h1) fun w H => ?_
         replace H := H.pick [1, 2, 3, 4, 5, 6, 7, 8, 9, 10, 0, 11, 12] 13 (by decide)
         simp only [pk, nth, pkA, pkB, pkC, pkD, pkE, pkF] at H
         refine ⟨.inl rfl, ?_⟩
         refine ⟨.inl rfl, ?_⟩
         refine BB.no (bne_self_eq_false _) ?_
         refine ⟨.inl rfl, ?_⟩
         exact ⟨(), ⟨rfl, trivial⟩, trivial, H⟩
        ·skip
         refine ⟨.inl rfl, ?_⟩
         have h1 := H.pick [10, 0, 1, 2, 3, 4, 5, 6, 7, 8, 9, 11, 12] 13 (by decide)
         simp only [pk, nth, pkA, pkB, pkC, pkD, pkE, pkF] at h1
         refine Cl.sl (by kernel_rfl) (p_lenL hny hky h1) fun w H => ?_
         replace H := H.pick [1, 2, 3, 4, 5, 6, 7, 8, 9, 10, 0, 11, 12] 13 (by decide)
         simp only [pk, nth, pkA, pkB, pkC, pkD, pkE, pkF] at H
         refine ⟨.inl rfl, ?_⟩
         refine BB.no (bne_self_eq_false _) ?_
         refine ⟨.inl rfl, ?_⟩
         exact ⟨(), ⟨rfl, trivial⟩, trivial, H⟩
     ·skip
      rintro _ s w ⟨hc, H⟩
      refine Cn.no ?_
      refine ⟨?_⟩
      refine H.ldi 2 rfl (v := .pointer (some ⟨crb10, 0, none⟩)) rfl ?_
      refine H.ldi 0 rfl (v := .slice oa y.crew.length oc) rfl ?_
      refine ⟨?_⟩
      refine den.loop (ι := Nat) [(2, 2), (14, 16), (135, 161)] (by kernel_rfl) (fun k => [(135, .int .i64 ↑k)]) (fun k w => k ≤ y.crew.length ∧ SL w (row crb10 #[.slice oa y.crew.length oc] 66 :: Slc 70 3 (.slice oa y.crew.length oc) y.crew.length (y.crew.flatMap One.cells) :: row rl #[.int .i64 t, .int .i64 m, .slice (some ⟨pb, po, none⟩) X.length pc, .slice la pl.length lc, .slice da dr.length dc, .pointer (some ⟨hb10, 0, none⟩), .pointer (some ⟨crb10, 0, none⟩), .slice cha10 y.M.length chc10, .int .i64 n0, .int .i64 n1, .int .i64 n2, .int .i64 n3, .int .i64 n4, .int .i64 n5, .int .i64 n6, .int .i64 n7, .slice ta10 y.tr.length tc10, .bool y.pan] 62 :: row hb10 #[.slice la pl.length lc, .slice da dr.length dc, .int .i64 ↑y.p, .int .i64 ↑y.d] 94 :: Slc 139 1 (.slice cha10 y.M.length chc10) y.M.length (pcs (ps10.map some)) :: RsP (ps10.map some) y.M :: Slc 36 8 (.slice ta10 y.tr.length tc10) y.tr.length (y.tr.flatMap Ev.cells) :: Slc 36 8 (.slice ka (y.tr.length - x.tr.length) kc) (y.tr.length - x.tr.length) ((y.tr.drop x.tr.length).flatMap Ev.cells) :: row b9 #[.int .i64 0, .int .i64 0, .int .i64 0, .slice none 0 0, .bool false] 44 :: row b1 #[.int .i64 t, .int .i64 m, .slice (some ⟨pb, po, none⟩) X.length pc, .slice la pl.length lc, .slice da dr.length dc] 25 :: LmP lm ⟨t, m, progsM X, pl, dr⟩ ⟨t, m, .slice (some ⟨vb, 0, none⟩) Z.length vc, .slice la' pl.length lc', .slice da' dr.length dc'⟩ y :: scrP (some ⟨vb, 0, none⟩) vc Z :: A :: F)) (fun k => y.crew.length - k) 0 ⟨rfl, trivial⟩ ⟨Nat.zero_le _, H⟩ ?_
      rintro k s w ⟨hkk, H⟩
      have hob := Nat.lt_or_ge k y.crew.length
      rcases hob with hkl | hkl
      ·skip
       have hob : ∃ z, y.crew[k]? = some z := ⟨_, List.getElem?_eq_getElem hkl⟩
       obtain ⟨z, hone⟩ := hob
       have hob := SL.slcAddr (H.up1) (by omega)
       obtain ⟨ob, rfl⟩ := hob
       refine ⟨?_⟩
       refine BB.yes (decide_eq_true (by omega)) ?_
       refine Cn.yes ?_
       refine ⟨?_⟩
       refine ⟨?_⟩
       refine ⟨?_⟩
       have h1 := H.pick [10, 0, 1, 2, 3, 4, 5, 6, 7, 8, 9, 11, 12] 13 (by decide)
       simp only [pk, nth, pkA, pkB, pkC, pkD, pkE, pkF] at h1
       have hq := p_stateL hny hky (k : Int) h1
       rw [stateF_full hone] at hq
       refine Cl.sl (by kernel_rfl) hq fun w H => ?_
       replace H := H.pick [1, 2, 3, 4, 5, 6, 7, 8, 9, 10, 0, 11, 12] 13 (by decide)
       simp only [pk, nth, pkA, pkB, pkC, pkD, pkE, pkF] at H
       refine ⟨?_⟩
       refine BB.no rfl ?_
       refine H.ldi 2 rfl (v := .pointer (some ⟨crb10, 0, none⟩)) rfl ?_
       refine H.ldi 0 rfl (v := .slice (some ⟨ob, 0, none⟩) y.crew.length oc) rfl ?_
       refine Ix.at0 k 3 (by kernel_rfl) (rfl) (hkl) ?_
       refine H.ldS 1 rfl (v := .int .i64 z.state) ((ones_at hone 2 (by decide)).trans rfl) ?_
       refine BB.no (bne_self_eq_false _) ?_
       refine Cn.no ?_
       refine ⟨?_⟩
       refine IW.by (wrap_id (n := ↑k + 1) (by omega) (by omega)) ?_
       exact ⟨k + 1, ⟨rfl, trivial⟩, ⟨(by omega : k + 1 ≤ y.crew.length), H⟩, (show y.crew.length - (k + 1) < y.crew.length - k by omega)⟩
      ·skip
       have hob : k = y.crew.length := by omega
       obtain rfl := hob
       refine ⟨?_⟩
       refine BB.no (decide_eq_false (by omega)) ?_
       refine Cn.no ?_
       refine ⟨?_⟩
       refine IW.by (wrap_id (n := ↑i + 1) (by omega) (by omega)) ?_
       have H0 := H
       replace H := ones_shut H0
       have H0 := H.pick [1, 2, 0, 3, 4, 5, 6, 7, 8, 9, 10, 11] 12 (by decide)
       simp only [pk, nth, pkA, pkB, pkC, pkD, pkE, pkF] at H0
       replace H := rl_shut (x := y) hl10 rfl hny H0
       have hxy : runL ⟨t, m, progsM X, pl, dr⟩ (i + 1) = y := by show stepL ⟨t, m, progsM X, pl, dr⟩ (runL ⟨t, m, progsM X, pl, dr⟩ i) = y; rw [hx, hy]
       rw [← hxy] at H
       exact ⟨i + 1, ⟨rfl, trivial⟩, ⟨(by omega : i + 1 ≤ pl.length + 1), H.pick [3, 4, 5, 0, 6] 7 (by decide)⟩, (show pl.length + 1 - (i + 1) < pl.length + 1 - i by omega)⟩
   ·skip
    refine ⟨?_⟩
    refine H.ldi 0 rfl (v := .slice la pl.length lc) rfl ?_
    refine BB.no (decide_eq_false (by omega)) ?_
    refine Cn.no ?_
    have H0 := H.pick [3, 0, 1, 2, 4] 5 (by decide)
    simp only [pk, nth, pkA, pkB, pkC, pkD, pkE, pkF] at H0
    replace H := H0
    have hob := rl_open (x := x) hn H
    obtain ⟨hb11, crb11, cha11, chc11, ta11, tc11, ps11, hl11, H⟩ := hob
    refine ⟨?_⟩
    refine Drw.oft (.calm 0 (.calm 2 (.calm 3 (.calm 4 (.calm 5 (.act 1 false (.act 6 true (.pure 7 (.act 8 true (.pure 9 (.pure 10 .nil))))))))))) (by kernel_rfl) mixed (fun w => SL w _) H.drew ?_
    replace H := H.drew
    refine LdC.i 0 rfl (v := .slice ta11 x.tr.length tc11) rfl ?_
    have h1 := H.pick [7, 0, 1, 2, 3, 4, 5, 6, 8, 9] 10 (by decide)
    simp only [pk, nth, pkA, pkB, pkC, pkD, pkE, pkF] at h1
    refine Cl.by (by kernel_rfl) (p_trace hn hk (by omega) h1) ?_
    rintro _ w ⟨ka, kc, rfl, H⟩
    refine ⟨_, rfl, ?_⟩
    replace H := H.pick [0, 2, 3, 4, 5, 6, 7, 8, 1, 9, 10] 11 (by decide)
    simp only [pk, nth, pkA, pkB, pkC, pkD, pkE, pkF] at H
    refine ⟨.inr (H.pick [1, 2, 3, 4, 5, 6, 7, 8, 9, 10] 11 (by decide)), ?_⟩
    have h1 := H.pick [0, 6, 1, 2, 3, 4, 5, 7, 8, 9, 10] 11 (by decide)
    simp only [pk, nth, pkA, pkB, pkC, pkD, pkE, pkF] at h1
    refine Cl.sl (by kernel_rfl) (l_events (Nat.le_trans hk.tr (by omega)) Reader.slc Reader.slc h1) fun w H => ?_
    replace H := H.pick [0, 2, 3, 4, 5, 6, 1, 7, 8, 9, 10] 11 (by decide)
    simp only [pk, nth, pkA, pkB, pkC, pkD, pkE, pkF] at H
    refine BB.yes rfl ?_
    refine ⟨.inl rfl, ?_⟩
    refine Cl.sl (by kernel_rfl) (l_hands H) fun w H => ?_
    refine BB.yes rfl ?_
    refine ⟨.inl rfl, ?_⟩
    refine ret1 (fn := Tryz.f7) (.bool true) rfl (by rfl) ?_
    exact ⟨rfl, H.pick [10] 11 (by decide)⟩
  ·skip
   refine Cn.yes ?_
   refine ⟨?_⟩
   refine Cl.sl (by kernel_rfl) (l_hands H) fun w H => ?_
   refine BB.yes rfl ?_
   refine ret1 (fn := Tryz.f7) (.bool true) rfl (by rfl) ?_
   exact ⟨rfl, H.pick [1] 2 (by decide)⟩
 ·skip
  refine calls_den (args := [_]) Tryz.func7 rfl (Nat.le_of_ble_eq_true (by kernel_rfl)) (by kernel_rfl) ?_
  refine ⟨?_⟩
  refine Nw.as #[.int .i64 t, .int .i64 m, .slice pa X.length pc, .slice la pl.length lc, .slice da dr.length dc] 25 rfl H fun b1 w H => ?_
  refine ⟨?_⟩
  refine H.ldi 0 rfl (v := .int .i64 t) rfl ?_
  refine H.ldi 0 rfl (v := .int .i64 m) rfl ?_
  refine H.ldi 0 rfl (v := .slice pa X.length pc) rfl ?_
  refine H.ldi 0 rfl (v := .slice la pl.length lc) rfl ?_
  refine H.ldi 0 rfl (v := .slice da dr.length dc) rfl ?_
  have h1 := H.pick [1, 0] 2 (by decide)
  simp only [pk, nth, pkA, pkB, pkC, pkD, pkE, pkF] at h1
  refine Cl.by (by kernel_rfl) (l_large hX hL hD h1) ?_
  rintro _ w ⟨bl, rfl, H⟩
  refine ⟨_, rfl, ?_⟩
  replace H := H.pick [1, 0] 2 (by decide)
  simp only [pk, nth, pkA, pkB, pkC, pkD, pkE, pkF] at H
  refine BB.k ?_
  cases bl
  ·skip
   refine Cn.no ?_
   refine ⟨?_⟩
   refine H.ldi 0 rfl (v := .int .i64 t) rfl ?_
   refine H.ldi 0 rfl (v := .int .i64 m) rfl ?_
   refine H.ldi 0 rfl (v := .slice pa X.length pc) rfl ?_
   refine H.ldi 0 rfl (v := .slice la pl.length lc) rfl ?_
   refine H.ldi 0 rfl (v := .slice da dr.length dc) rfl ?_
   have h1 := H.pick [1, 0] 2 (by decide)
   simp only [pk, nth, pkA, pkB, pkC, pkD, pkE, pkF] at h1
   refine Cl.sl (by kernel_rfl) (p_new_no hX hL hD hck h1) fun w H => ?_
   replace H := H.pick [1, 0] 2 (by decide)
   simp only [pk, nth, pkA, pkB, pkC, pkD, pkE, pkF] at H
   refine ⟨?_⟩
   refine H.ldi 0 rfl (v := .int .i64 t) rfl ?_
   refine H.ldi 0 rfl (v := .int .i64 m) rfl ?_
   refine H.ldi 0 rfl (v := .slice pa X.length pc) rfl ?_
   refine H.ldi 0 rfl (v := .slice la pl.length lc) rfl ?_
   refine H.ldi 0 rfl (v := .slice da dr.length dc) rfl ?_
   have h1 := H.pick [1, 0] 2 (by decide)
   simp only [pk, nth, pkA, pkB, pkC, pkD, pkE, pkF] at h1
   refine Cl.sl (by kernel_rfl) (r_new13_no hX hL hD hck h1) fun w H => ?_
   replace H := H.pick [1, 0] 2 (by decide)
   simp only [pk, nth, pkA, pkB, pkC, pkD, pkE, pkF] at H
   refine ⟨?_⟩
   refine BB.no (bne_self_eq_false _) ?_
   refine BB.yes rfl ?_
   refine BB.yes rfl ?_
   refine BB.no rfl ?_
   refine Cn.no ?_
   refine ⟨?_⟩
   refine BB.yes rfl ?_
   refine Cn.yes ?_
   refine ⟨?_⟩
   refine Cl.sl (by kernel_rfl) (l_hands H) fun w H => ?_
   refine BB.yes rfl ?_
   refine ret1 (fn := Tryz.f7) (.bool true) rfl (by rfl) ?_
   exact ⟨rfl, H.pick [1] 2 (by decide)⟩
  ·skip
   refine Cn.yes ?_
   refine ⟨?_⟩
   refine Cl.sl (by kernel_rfl) (l_hands H) fun w H => ?_
   refine BB.yes rfl ?_
   refine ret1 (fn := Tryz.f7) (.bool true) rfl (by rfl) ?_
   exact ⟨rfl, H.pick [1] 2 (by decide)⟩
theorem loomSteps_walk {w : World} {v : Value} {s : ScrX} (y : ScrIn w v s) : Calls Tryz.prog 7 #[v] w fun e w' => e = .returned (.bool true) ∧ Frm Nil w w' := by
 have hv := y.val
 subst hv
 refine (l_steps (F := []) (fun h => Old.scr y.progs h) (Old.rd y.plan) (Old.rd y.draws) (SL.start w)).mono ?_
 rintro e w' ⟨rfl, H⟩
 exact ⟨rfl, H.old⟩
end Go.Proofs.YtcgajljbahbhdaaGreat
