/- Texts of the proof, several in one file: LawG. -/
import Derived.Test.YtcgajljbahbhdaaGreatR22
import Derived.Test.YtcgajljbahbhdaaGreatR24
namespace Go.Proofs.YtcgajljbahbhdaaGreat
set_option linter.unusedVariables false
set_option linter.unusedSimpArgs false
open Go.RowKit
set_option maxRecDepth 100000
def plainP (p : List OpM) : Bool := p.all (fun o : OpM => !(o.kind == 6) || decide (o.cases.length ≤ 1))
theorem plain_of {t m : Int} {X : List ProgX} {pl dr : List Int} (h : (progsM X).all plainP = true) : Plain ⟨t, m, progsM X, pl, dr⟩ := by
 intro p hp o ho h6
 have h1 := List.all_eq_true.1 h p hp
 have h2 := List.all_eq_true.1 h1 o ho
 simp [h6] at h2
 exact h2
section
variable {w : World} {F : List Piece} {A : Piece} {pa la da : Option Addr} {pc lc dc : Nat} {t m : Int} {X : List ProgX} {pl dr : List Int} {ds : List Int} {xa : Option Addr} {xc : Nat}
theorem p_runD (hRR : runL ⟨t, m, progsM X, pl, ds⟩ (pl.length + 1) = (runL ⟨t, m, progsM X, pl, dr⟩ (pl.length + 1))) (hX : 0 < X.length → ∃ b off, pa = some ⟨b, off, none⟩ ∧ ScrA A b off X) (hL : Reader A 1 la pl.length (ints pl)) (hE : Reader A 1 xa ds.length (ints ds)) (hck : checkE ⟨t, m, progsM X, pl, ds⟩ = 0) (H : SL w (A :: F)) : Calls Tryz.prog 12 #[.agg #[.int .i64 t, .int .i64 m, .slice pa X.length pc, .slice la pl.length lc, .slice xa ds.length xc]] w fun o w' => ∃ ka kc, o = .returned (.tuple #[.slice ka (runL ⟨t, m, progsM X, pl, dr⟩ (pl.length + 1)).tr.length kc, .int .i64 (verL ⟨t, m, progsM X, pl, dr⟩ (runL ⟨t, m, progsM X, pl, dr⟩ (pl.length + 1)))]) ∧ SL w' (Slc 36 8 (.slice ka (runL ⟨t, m, progsM X, pl, dr⟩ (pl.length + 1)).tr.length kc) (runL ⟨t, m, progsM X, pl, dr⟩ (pl.length + 1)).tr.length ((runL ⟨t, m, progsM X, pl, dr⟩ (pl.length + 1)).tr.flatMap Ev.cells) :: A :: F) := by
 have h := p_run (pc := pc) (lc := lc) (dc := xc) hX hL hE hck H
 rw [hRR, ver_plain (s := ⟨t, m, progsM X, pl, dr⟩) (s' := ⟨t, m, progsM X, pl, ds⟩) rfl] at h
 exact h
end
set_option maxHeartbeats 4000000 in
theorem l_draws {w : World} {F : List Piece} {A : Piece} {pa la da : Option Addr} {pc lc dc : Nat} {t m : Int} {X : List ProgX} {pl dr : List Int} (hX : 0 < X.length → ∃ b off, pa = some ⟨b, off, none⟩ ∧ ScrA A b off X) (hL : Reader A 1 la pl.length (ints pl)) (hD : Reader A 1 da dr.length (ints dr)) {ds : List Int} {xa : Option Addr} {xc : Nat} (hE : Reader A 1 xa ds.length (ints ds)) (hxm : X.length ≤ maxLen) (hom0 : ∀ p ∈ X, p.ops.length ≤ maxLen) (H : SL w (A :: F)) : Calls Tryz.prog 6 #[.agg #[.int .i64 t, .int .i64 m, .slice pa X.length pc, .slice la pl.length lc, .slice da dr.length dc], .slice xa ds.length xc] w fun o w' => o = .returned (.bool true) ∧ SL w' (A :: F) := by
 simp only [maxLen] at hxm hom0
 by_cases hck : checkE ⟨t, m, progsM X, pl, dr⟩ = 0
 ·by_cases hck2 : checkE ⟨t, m, progsM X, pl, ds⟩ = 0
  ·skip
   refine calls_den (args := [_, _]) Tryz.func6 rfl (Nat.le_of_ble_eq_true (by kernel_rfl)) (by kernel_rfl) ?_
   refine ⟨?_⟩
   refine Nw.as #[.int .i64 t, .int .i64 m, .slice pa X.length pc, .slice la pl.length lc, .slice da dr.length dc] 25 rfl H fun b2 w H => ?_
   refine ⟨?_⟩
   refine H.ldi 0 rfl (v := .int .i64 t) rfl ?_
   refine H.ldi 0 rfl (v := .int .i64 m) rfl ?_
   refine H.ldi 0 rfl (v := .slice pa X.length pc) rfl ?_
   refine H.ldi 0 rfl (v := .slice la pl.length lc) rfl ?_
   refine H.ldi 0 rfl (v := .slice da dr.length dc) rfl ?_
   have h1 := H.pick [1, 0] 2 (by decide)
   simp only [pk, nth, pkA, pkB, pkC, pkD, pkE, pkF] at h1
   refine Cl.by (by kernel_rfl) (l_large hX hL hD h1) ?_
   rintro _ w ⟨bl, rfl, H⟩
   refine ⟨_, rfl, ?_⟩
   replace H := H.pick [1, 0] 2 (by decide)
   simp only [pk, nth, pkA, pkB, pkC, pkD, pkE, pkF] at H
   refine BB.k ?_
   cases bl
   ·skip
    refine BB.vr fun q1 e1 => ?_
    cases q1
    ·skip
     have h1 := of_decide_eq_false e1
     refine Cn.no ?_
     refine ⟨?_⟩
     refine H.ldi 0 rfl (v := .slice pa X.length pc) rfl ?_
     refine ⟨?_⟩
     refine den.loop (ι := Nat) [(4, 4), (6, 6), (8, 8), (25, 46)] (by kernel_rfl) (fun k => [(25, .int .i64 ↑k)]) (fun k w => (k ≤ X.length ∧ ((progsM X).take k).all plainP = true) ∧ SL w (row b2 #[.int .i64 t, .int .i64 m, .slice pa X.length pc, .slice la pl.length lc, .slice da dr.length dc] 25 :: A :: F)) (fun k => X.length - k) 0 ⟨rfl, trivial⟩ ⟨⟨Nat.zero_le _, rfl⟩, (H)⟩ ?_
     rintro k s w ⟨hc, H⟩
     have hob := Nat.lt_or_ge k X.length
     rcases hob with hk | hk
     ·skip
      have hob : ∃ z, X[k]? = some z := ⟨_, List.getElem?_eq_getElem hk⟩
      obtain ⟨px, hY⟩ := hob
      have hob := hX (by omega)
      obtain ⟨pb, po, rfl, hXA⟩ := hob
      have hM : (progsM X)[k]? = some (px.ops.map (·.op)) := by unfold progsM; rw [List.getElem?_map, hY]; rfl
      have hsome := hXA.some_ k px hY
      have hcase := hXA.case k px hY
      obtain ⟨ops, qa, qc⟩ := px
      dsimp only at hM hsome hcase
      have hom := hom0 _ (List.mem_of_getElem? hY)
      dsimp only at hom
      refine ⟨?_⟩
      refine BB.yes (decide_eq_true (by omega)) ?_
      refine Cn.yes ?_
      refine ⟨?_⟩
      refine ⟨?_⟩
      refine Ix.at k 1 (by kernel_rfl) (rfl) (hk) ?_
      refine H.ldPv 1 rfl hXA k hY (v := .slice qa ops.length qc) rfl ?_
      refine ⟨?_⟩
      refine ⟨?_⟩
      refine den.loop (ι := Nat) [(4, 4), (8, 8), (31, 45)] (by kernel_rfl) (fun i => [(31, .int .i64 ↑i)]) (fun i w => (i ≤ ops.length ∧ ((ops.map (·.op)).take i).all (fun o : OpM => !(o.kind == 6) || decide (o.cases.length ≤ 1)) = true) ∧ SL w (row b2 #[.int .i64 t, .int .i64 m, .slice (some ⟨pb, po, none⟩) X.length pc, .slice la pl.length lc, .slice da dr.length dc] 25 :: A :: F)) (fun i => ops.length - i) 0 ⟨rfl, trivial⟩ ⟨⟨Nat.zero_le _, rfl⟩, (H)⟩ ?_
      rintro i s w ⟨hd, H⟩
      have hob := Nat.lt_or_ge i ops.length
      rcases hob with hi | hi
      ·skip
       have hob := hsome (by omega)
       obtain ⟨qb, qo, rfl⟩ := hob
       have hob : ∃ z, ops[i]? = some z := ⟨_, List.getElem?_eq_getElem hi⟩
       obtain ⟨ox, hox⟩ := hob
       have hoM : (ops.map (·.op))[i]? = some ox.op := by rw [List.getElem?_map, hox]; rfl
       refine ⟨?_⟩
       refine BB.yes (decide_eq_true (by omega)) ?_
       refine Cn.yes ?_
       refine ⟨?_⟩
       refine ⟨?_⟩
       refine Ix.at i 5 (by kernel_rfl) (rfl) (hi) ?_
       refine H.ldO 1 rfl hXA k hY rfl i 0 hox (v := .int .i64 ox.op.kind) rfl ?_
       refine H.ldO 1 rfl hXA k hY rfl i 1 hox (v := .int .i64 ox.op.a) rfl ?_
       refine H.ldO 1 rfl hXA k hY rfl i 2 hox (v := .int .i64 ox.op.b) rfl ?_
       refine H.ldO 1 rfl hXA k hY rfl i 3 hox (v := .slice ox.ca ox.op.cases.length ox.cc) rfl ?_
       refine H.ldO 1 rfl hXA k hY rfl i 4 hox (v := .bool ox.op.dflt) rfl ?_
       refine Nw.as #[.int .i64 0, .int .i64 0, .int .i64 0, .slice none 0 0, .bool false] 44 rfl H fun b8 w H => ?_
       refine H.st0 (cs' := #[.int .i64 ox.op.kind, .int .i64 0, .int .i64 0, .slice none 0 0, .bool false]) rfl rfl rfl fun w H => ?_
       refine H.st0 (cs' := #[.int .i64 ox.op.kind, .int .i64 ox.op.a, .int .i64 0, .slice none 0 0, .bool false]) rfl rfl rfl fun w H => ?_
       refine H.st0 (cs' := #[.int .i64 ox.op.kind, .int .i64 ox.op.a, .int .i64 ox.op.b, .slice none 0 0, .bool false]) rfl rfl rfl fun w H => ?_
       refine H.st0 (cs' := #[.int .i64 ox.op.kind, .int .i64 ox.op.a, .int .i64 ox.op.b, .slice ox.ca ox.op.cases.length ox.cc, .bool false]) rfl rfl rfl fun w H => ?_
       refine H.st0 (cs' := #[.int .i64 ox.op.kind, .int .i64 ox.op.a, .int .i64 ox.op.b, .slice ox.ca ox.op.cases.length ox.cc, .bool ox.op.dflt]) rfl rfl rfl fun w H => ?_
       refine ⟨?_⟩
       refine H.ldi 0 rfl (v := .int .i64 ox.op.kind) rfl ?_
       refine BB.vr fun q2 e2 => ?_
       cases q2
       ·skip
        have h2 := beq_eq_false_iff_ne.1 e2
        refine Cn.no ?_
        refine ⟨?_⟩
        refine IW.by (wrap_id (n := ↑i + 1) (by omega) (by omega)) ?_
        have hone : (fun o : OpM => !(o.kind == 6) || decide (o.cases.length ≤ 1)) ox.op = true := by simp [show ox.op.kind ≠ 6 by assumption]
        exact ⟨i + 1, ⟨rfl, trivial⟩, ⟨⟨by omega, all_step (p := (fun o : OpM => !(o.kind == 6) || decide (o.cases.length ≤ 1))) hd.2 hoM hone⟩, H.pick [1, 2] 3 (by decide)⟩, (show ops.length - (i + 1) < ops.length - i by omega)⟩
       ·skip
        have h2 := eq_of_beq e2
        refine H.ldi 0 rfl (v := .slice ox.ca ox.op.cases.length ox.cc) rfl ?_
        refine BB.vr fun q3 e3 => ?_
        cases q3
        ·skip
         have h3 := of_decide_eq_false e3
         refine Cn.no ?_
         refine ⟨?_⟩
         refine IW.by (wrap_id (n := ↑i + 1) (by omega) (by omega)) ?_
         have hone : (fun o : OpM => !(o.kind == 6) || decide (o.cases.length ≤ 1)) ox.op = true := by simp; omega
         exact ⟨i + 1, ⟨rfl, trivial⟩, ⟨⟨by omega, all_step (p := (fun o : OpM => !(o.kind == 6) || decide (o.cases.length ≤ 1))) hd.2 hoM hone⟩, H.pick [1, 2] 3 (by decide)⟩, (show ops.length - (i + 1) < ops.length - i by omega)⟩
        ·skip
         have h3 := of_decide_eq_true e3
         refine Cn.yes ?_
         refine ⟨?_⟩
         refine Cl.sl (by kernel_rfl) (l_hands H) fun w H => ?_
         refine BB.yes rfl ?_
         refine ret1 (fn := Tryz.f6) (.bool true) rfl (by rfl) ?_
         exact ⟨rfl, H.pick [2] 3 (by decide)⟩
      ·skip
       have hob : i = ops.length := by omega
       obtain rfl := hob
       have hq := hd.2
       rw [List.take_of_length_le (by simp)] at hq
       refine ⟨?_⟩
       refine BB.no (decide_eq_false (by omega)) ?_
       refine Cn.no ?_
       refine ⟨?_⟩
       refine IW.by (wrap_id (n := ↑k + 1) (by omega) (by omega)) ?_
       have hone : plainP (ops.map (·.op)) = true := hq
       exact ⟨k + 1, ⟨rfl, trivial⟩, ⟨⟨by omega, all_step hc.2 hM hone⟩, H⟩, (show X.length - (k + 1) < X.length - k by omega)⟩
     ·skip
      have hob : k = X.length := by omega
      obtain rfl := hob
      have hpl6 := hc.2
      rw [List.take_of_length_le (by simp [progsM])] at hpl6
      refine ⟨?_⟩
      refine BB.no (decide_eq_false (by omega)) ?_
      refine Cn.no ?_
      have hRR : runL ⟨t, m, progsM X, pl, ds⟩ (pl.length + 1) = (runL ⟨t, m, progsM X, pl, dr⟩ (pl.length + 1)) := run_plain (s := ⟨t, m, progsM X, pl, dr⟩) (s' := ⟨t, m, progsM X, pl, ds⟩) rfl rfl (plain_of hpl6) _
      refine ⟨?_⟩
      refine H.ldi 0 rfl (v := .int .i64 t) rfl ?_
      refine H.ldi 0 rfl (v := .int .i64 m) rfl ?_
      refine H.ldi 0 rfl (v := .slice pa X.length pc) rfl ?_
      refine H.ldi 0 rfl (v := .slice la pl.length lc) rfl ?_
      refine H.ldi 0 rfl (v := .slice da dr.length dc) rfl ?_
      refine Nw.as #[.int .i64 0, .int .i64 0, .slice none 0 0, .slice none 0 0, .slice none 0 0] 25 rfl H fun b9 w H => ?_
      refine H.st0 (cs' := #[.int .i64 t, .int .i64 0, .slice none 0 0, .slice none 0 0, .slice none 0 0]) rfl rfl rfl fun w H => ?_
      refine H.st0 (cs' := #[.int .i64 t, .int .i64 m, .slice none 0 0, .slice none 0 0, .slice none 0 0]) rfl rfl rfl fun w H => ?_
      refine H.st0 (cs' := #[.int .i64 t, .int .i64 m, .slice pa X.length pc, .slice none 0 0, .slice none 0 0]) rfl rfl rfl fun w H => ?_
      refine H.st0 (cs' := #[.int .i64 t, .int .i64 m, .slice pa X.length pc, .slice la pl.length lc, .slice none 0 0]) rfl rfl rfl fun w H => ?_
      refine H.st0 (cs' := #[.int .i64 t, .int .i64 m, .slice pa X.length pc, .slice la pl.length lc, .slice da dr.length dc]) rfl rfl rfl fun w H => ?_
      refine ⟨?_⟩
      refine H.st0 (cs' := #[.int .i64 t, .int .i64 m, .slice pa X.length pc, .slice la pl.length lc, .slice xa ds.length xc]) rfl rfl rfl fun w H => ?_
      refine ⟨?_⟩
      refine H.ldi 1 rfl (v := .int .i64 t) rfl ?_
      refine H.ldi 1 rfl (v := .int .i64 m) rfl ?_
      refine H.ldi 1 rfl (v := .slice pa X.length pc) rfl ?_
      refine H.ldi 1 rfl (v := .slice la pl.length lc) rfl ?_
      refine H.ldi 1 rfl (v := .slice da dr.length dc) rfl ?_
      have h1 := H.pick [2, 0, 1] 3 (by decide)
      simp only [pk, nth, pkA, pkB, pkC, pkD, pkE, pkF] at h1
      refine Cl.sl (by kernel_rfl) (p_check hX hL hD h1) fun w H => ?_
      replace H := H.pick [1, 2, 0] 3 (by decide)
      simp only [pk, nth, pkA, pkB, pkC, pkD, pkE, pkF] at H
      rw [hck]
      refine BB.no rfl ?_
      refine H.ldi 0 rfl (v := .int .i64 t) rfl ?_
      refine H.ldi 0 rfl (v := .int .i64 m) rfl ?_
      refine H.ldi 0 rfl (v := .slice pa X.length pc) rfl ?_
      refine H.ldi 0 rfl (v := .slice la pl.length lc) rfl ?_
      refine H.ldi 0 rfl (v := .slice xa ds.length xc) rfl ?_
      have h1 := H.pick [2, 0, 1] 3 (by decide)
      simp only [pk, nth, pkA, pkB, pkC, pkD, pkE, pkF] at h1
      refine Cl.sl (by kernel_rfl) (p_check hX hL hE h1) fun w H => ?_
      replace H := H.pick [1, 2, 0] 3 (by decide)
      simp only [pk, nth, pkA, pkB, pkC, pkD, pkE, pkF] at H
      rw [hck2]
      refine BB.no rfl ?_
      refine Cn.no ?_
      refine ⟨?_⟩
      refine H.ldi 1 rfl (v := .int .i64 t) rfl ?_
      refine H.ldi 1 rfl (v := .int .i64 m) rfl ?_
      refine H.ldi 1 rfl (v := .slice pa X.length pc) rfl ?_
      refine H.ldi 1 rfl (v := .slice la pl.length lc) rfl ?_
      refine H.ldi 1 rfl (v := .slice da dr.length dc) rfl ?_
      have h1 := H.pick [2, 0, 1] 3 (by decide)
      simp only [pk, nth, pkA, pkB, pkC, pkD, pkE, pkF] at h1
      refine Cl.by (by kernel_rfl) (p_run hX hL hD hck h1) ?_
      rintro _ w ⟨ka, kc, rfl, H⟩
      refine ⟨_, rfl, ?_⟩
      replace H := H.pick [0, 2, 3, 1] 4 (by decide)
      simp only [pk, nth, pkA, pkB, pkC, pkD, pkE, pkF] at H
      refine ⟨?_⟩
      refine H.ldi 1 rfl (v := .int .i64 t) rfl ?_
      refine H.ldi 1 rfl (v := .int .i64 m) rfl ?_
      refine H.ldi 1 rfl (v := .slice pa X.length pc) rfl ?_
      refine H.ldi 1 rfl (v := .slice la pl.length lc) rfl ?_
      refine H.ldi 1 rfl (v := .slice xa ds.length xc) rfl ?_
      have h1 := H.pick [3, 0, 1, 2] 4 (by decide)
      simp only [pk, nth, pkA, pkB, pkC, pkD, pkE, pkF] at h1
      refine Cl.by (by kernel_rfl) (p_runD hRR hX hL hE hck2 h1) ?_
      rintro _ w ⟨ja, jc, rfl, H⟩
      refine ⟨_, rfl, ?_⟩
      replace H := H.pick [0, 2, 3, 4, 1] 5 (by decide)
      simp only [pk, nth, pkA, pkB, pkC, pkD, pkE, pkF] at H
      refine ⟨?_⟩
      have h1 := H.pick [1, 0, 2, 3, 4] 5 (by decide)
      simp only [pk, nth, pkA, pkB, pkC, pkD, pkE, pkF] at h1
      refine Cl.sl (by kernel_rfl) (l_events (run_len hck) Reader.slc Reader.slc h1) fun w H => ?_
      replace H := H.pick [1, 0, 2, 3, 4] 5 (by decide)
      simp only [pk, nth, pkA, pkB, pkC, pkD, pkE, pkF] at H
      refine BB.yes rfl ?_
      refine BB.yes (beq_self_eq_true _) ?_
      refine Cl.sl (by kernel_rfl) (l_hands H) fun w H => ?_
      refine BB.yes rfl ?_
      refine ret1 (fn := Tryz.f6) (.bool true) rfl (by rfl) ?_
      exact ⟨rfl, H.pick [4] 5 (by decide)⟩
    ·skip
     have h1 := of_decide_eq_true e1
     refine Cn.yes ?_
     refine ⟨?_⟩
     refine Cl.sl (by kernel_rfl) (l_hands H) fun w H => ?_
     refine BB.yes rfl ?_
     refine ret1 (fn := Tryz.f6) (.bool true) rfl (by rfl) ?_
     exact ⟨rfl, H.pick [1] 2 (by decide)⟩
   ·skip
    refine Cn.yes ?_
    refine ⟨?_⟩
    refine Cl.sl (by kernel_rfl) (l_hands H) fun w H => ?_
    refine BB.yes rfl ?_
    refine ret1 (fn := Tryz.f6) (.bool true) rfl (by rfl) ?_
    exact ⟨rfl, H.pick [1] 2 (by decide)⟩
  ·skip
   refine calls_den (args := [_, _]) Tryz.func6 rfl (Nat.le_of_ble_eq_true (by kernel_rfl)) (by kernel_rfl) ?_
   refine ⟨?_⟩
   refine Nw.as #[.int .i64 t, .int .i64 m, .slice pa X.length pc, .slice la pl.length lc, .slice da dr.length dc] 25 rfl H fun b2 w H => ?_
   refine ⟨?_⟩
   refine H.ldi 0 rfl (v := .int .i64 t) rfl ?_
   refine H.ldi 0 rfl (v := .int .i64 m) rfl ?_
   refine H.ldi 0 rfl (v := .slice pa X.length pc) rfl ?_
   refine H.ldi 0 rfl (v := .slice la pl.length lc) rfl ?_
   refine H.ldi 0 rfl (v := .slice da dr.length dc) rfl ?_
   have h1 := H.pick [1, 0] 2 (by decide)
   simp only [pk, nth, pkA, pkB, pkC, pkD, pkE, pkF] at h1
   refine Cl.by (by kernel_rfl) (l_large hX hL hD h1) ?_
   rintro _ w ⟨bl, rfl, H⟩
   refine ⟨_, rfl, ?_⟩
   replace H := H.pick [1, 0] 2 (by decide)
   simp only [pk, nth, pkA, pkB, pkC, pkD, pkE, pkF] at H
   refine BB.k ?_
   cases bl
   ·skip
    refine BB.vr fun q1 e1 => ?_
    cases q1
    ·skip
     have h1 := of_decide_eq_false e1
     refine Cn.no ?_
     refine ⟨?_⟩
     refine H.ldi 0 rfl (v := .slice pa X.length pc) rfl ?_
     refine ⟨?_⟩
     refine den.loop (ι := Nat) [(4, 4), (6, 6), (8, 8), (25, 46)] (by kernel_rfl) (fun k => [(25, .int .i64 ↑k)]) (fun k w => (k ≤ X.length ∧ ((progsM X).take k).all plainP = true) ∧ SL w (row b2 #[.int .i64 t, .int .i64 m, .slice pa X.length pc, .slice la pl.length lc, .slice da dr.length dc] 25 :: A :: F)) (fun k => X.length - k) 0 ⟨rfl, trivial⟩ ⟨⟨Nat.zero_le _, rfl⟩, (H)⟩ ?_
     rintro k s w ⟨hc, H⟩
     have hob := Nat.lt_or_ge k X.length
     rcases hob with hk | hk
     ·skip
      have hob : ∃ z, X[k]? = some z := ⟨_, List.getElem?_eq_getElem hk⟩
      obtain ⟨px, hY⟩ := hob
      have hob := hX (by omega)
      obtain ⟨pb, po, rfl, hXA⟩ := hob
      have hM : (progsM X)[k]? = some (px.ops.map (·.op)) := by unfold progsM; rw [List.getElem?_map, hY]; rfl
      have hsome := hXA.some_ k px hY
      have hcase := hXA.case k px hY
      obtain ⟨ops, qa, qc⟩ := px
      dsimp only at hM hsome hcase
      have hom := hom0 _ (List.mem_of_getElem? hY)
      dsimp only at hom
      refine ⟨?_⟩
      refine BB.yes (decide_eq_true (by omega)) ?_
      refine Cn.yes ?_
      refine ⟨?_⟩
      refine ⟨?_⟩
      refine Ix.at k 1 (by kernel_rfl) (rfl) (hk) ?_
      refine H.ldPv 1 rfl hXA k hY (v := .slice qa ops.length qc) rfl ?_
      refine ⟨?_⟩
      refine ⟨?_⟩
      refine den.loop (ι := Nat) [(4, 4), (8, 8), (31, 45)] (by kernel_rfl) (fun i => [(31, .int .i64 ↑i)]) (fun i w => (i ≤ ops.length ∧ ((ops.map (·.op)).take i).all (fun o : OpM => !(o.kind == 6) || decide (o.cases.length ≤ 1)) = true) ∧ SL w (row b2 #[.int .i64 t, .int .i64 m, .slice (some ⟨pb, po, none⟩) X.length pc, .slice la pl.length lc, .slice da dr.length dc] 25 :: A :: F)) (fun i => ops.length - i) 0 ⟨rfl, trivial⟩ ⟨⟨Nat.zero_le _, rfl⟩, (H)⟩ ?_
      rintro i s w ⟨hd, H⟩
      have hob := Nat.lt_or_ge i ops.length
      rcases hob with hi | hi
      ·skip
       have hob := hsome (by omega)
       obtain ⟨qb, qo, rfl⟩ := hob
       have hob : ∃ z, ops[i]? = some z := ⟨_, List.getElem?_eq_getElem hi⟩
       obtain ⟨ox, hox⟩ := hob
       have hoM : (ops.map (·.op))[i]? = some ox.op := by rw [List.getElem?_map, hox]; rfl
       refine ⟨?_⟩
       refine BB.yes (decide_eq_true (by omega)) ?_
       refine Cn.yes ?_
       refine ⟨?_⟩
       refine ⟨?_⟩
       refine Ix.at i 5 (by kernel_rfl) (rfl) (hi) ?_
       refine H.ldO 1 rfl hXA k hY rfl i 0 hox (v := .int .i64 ox.op.kind) rfl ?_
       refine H.ldO 1 rfl hXA k hY rfl i 1 hox (v := .int .i64 ox.op.a) rfl ?_
       refine H.ldO 1 rfl hXA k hY rfl i 2 hox (v := .int .i64 ox.op.b) rfl ?_
       refine H.ldO 1 rfl hXA k hY rfl i 3 hox (v := .slice ox.ca ox.op.cases.length ox.cc) rfl ?_
       refine H.ldO 1 rfl hXA k hY rfl i 4 hox (v := .bool ox.op.dflt) rfl ?_
       refine Nw.as #[.int .i64 0, .int .i64 0, .int .i64 0, .slice none 0 0, .bool false] 44 rfl H fun b8 w H => ?_
       refine H.st0 (cs' := #[.int .i64 ox.op.kind, .int .i64 0, .int .i64 0, .slice none 0 0, .bool false]) rfl rfl rfl fun w H => ?_
       refine H.st0 (cs' := #[.int .i64 ox.op.kind, .int .i64 ox.op.a, .int .i64 0, .slice none 0 0, .bool false]) rfl rfl rfl fun w H => ?_
       refine H.st0 (cs' := #[.int .i64 ox.op.kind, .int .i64 ox.op.a, .int .i64 ox.op.b, .slice none 0 0, .bool false]) rfl rfl rfl fun w H => ?_
       refine H.st0 (cs' := #[.int .i64 ox.op.kind, .int .i64 ox.op.a, .int .i64 ox.op.b, .slice ox.ca ox.op.cases.length ox.cc, .bool false]) rfl rfl rfl fun w H => ?_
       refine H.st0 (cs' := #[.int .i64 ox.op.kind, .int .i64 ox.op.a, .int .i64 ox.op.b, .slice ox.ca ox.op.cases.length ox.cc, .bool ox.op.dflt]) rfl rfl rfl fun w H => ?_
       refine ⟨?_⟩
       refine H.ldi 0 rfl (v := .int .i64 ox.op.kind) rfl ?_
       refine BB.vr fun q2 e2 => ?_
       cases q2
       ·skip
        have h2 := beq_eq_false_iff_ne.1 e2
        refine Cn.no ?_
        refine ⟨?_⟩
        refine IW.by (wrap_id (n := ↑i + 1) (by omega) (by omega)) ?_
        have hone : (fun o : OpM => !(o.kind == 6) || decide (o.cases.length ≤ 1)) ox.op = true := by simp [show ox.op.kind ≠ 6 by assumption]
        exact ⟨i + 1, ⟨rfl, trivial⟩, ⟨⟨by omega, all_step (p := (fun o : OpM => !(o.kind == 6) || decide (o.cases.length ≤ 1))) hd.2 hoM hone⟩, H.pick [1, 2] 3 (by decide)⟩, (show ops.length - (i + 1) < ops.length - i by omega)⟩
       ·skip
        have h2 := eq_of_beq e2
        refine H.ldi 0 rfl (v := .slice ox.ca ox.op.cases.length ox.cc) rfl ?_
        refine BB.vr fun q3 e3 => ?_
        cases q3
        ·skip
         have h3 := of_decide_eq_false e3
         refine Cn.no ?_
         refine ⟨?_⟩
         refine IW.by (wrap_id (n := ↑i + 1) (by omega) (by omega)) ?_
         have hone : (fun o : OpM => !(o.kind == 6) || decide (o.cases.length ≤ 1)) ox.op = true := by simp; omega
         exact ⟨i + 1, ⟨rfl, trivial⟩, ⟨⟨by omega, all_step (p := (fun o : OpM => !(o.kind == 6) || decide (o.cases.length ≤ 1))) hd.2 hoM hone⟩, H.pick [1, 2] 3 (by decide)⟩, (show ops.length - (i + 1) < ops.length - i by omega)⟩
        ·skip
         have h3 := of_decide_eq_true e3
         refine Cn.yes ?_
         refine ⟨?_⟩
         refine Cl.sl (by kernel_rfl) (l_hands H) fun w H => ?_
         refine BB.yes rfl ?_
         refine ret1 (fn := Tryz.f6) (.bool true) rfl (by rfl) ?_
         exact ⟨rfl, H.pick [2] 3 (by decide)⟩
      ·skip
       have hob : i = ops.length := by omega
       obtain rfl := hob
       have hq := hd.2
       rw [List.take_of_length_le (by simp)] at hq
       refine ⟨?_⟩
       refine BB.no (decide_eq_false (by omega)) ?_
       refine Cn.no ?_
       refine ⟨?_⟩
       refine IW.by (wrap_id (n := ↑k + 1) (by omega) (by omega)) ?_
       have hone : plainP (ops.map (·.op)) = true := hq
       exact ⟨k + 1, ⟨rfl, trivial⟩, ⟨⟨by omega, all_step hc.2 hM hone⟩, H⟩, (show X.length - (k + 1) < X.length - k by omega)⟩
     ·skip
      have hob : k = X.length := by omega
      obtain rfl := hob
      have hpl6 := hc.2
      rw [List.take_of_length_le (by simp [progsM])] at hpl6
      refine ⟨?_⟩
      refine BB.no (decide_eq_false (by omega)) ?_
      refine Cn.no ?_
      refine ⟨?_⟩
      refine H.ldi 0 rfl (v := .int .i64 t) rfl ?_
      refine H.ldi 0 rfl (v := .int .i64 m) rfl ?_
      refine H.ldi 0 rfl (v := .slice pa X.length pc) rfl ?_
      refine H.ldi 0 rfl (v := .slice la pl.length lc) rfl ?_
      refine H.ldi 0 rfl (v := .slice da dr.length dc) rfl ?_
      refine Nw.as #[.int .i64 0, .int .i64 0, .slice none 0 0, .slice none 0 0, .slice none 0 0] 25 rfl H fun b9 w H => ?_
      refine H.st0 (cs' := #[.int .i64 t, .int .i64 0, .slice none 0 0, .slice none 0 0, .slice none 0 0]) rfl rfl rfl fun w H => ?_
      refine H.st0 (cs' := #[.int .i64 t, .int .i64 m, .slice none 0 0, .slice none 0 0, .slice none 0 0]) rfl rfl rfl fun w H => ?_
      refine H.st0 (cs' := #[.int .i64 t, .int .i64 m, .slice pa X.length pc, .slice none 0 0, .slice none 0 0]) rfl rfl rfl fun w H => ?_
      refine H.st0 (cs' := #[.int .i64 t, .int .i64 m, .slice pa X.length pc, .slice la pl.length lc, .slice none 0 0]) rfl rfl rfl fun w H => ?_
      refine H.st0 (cs' := #[.int .i64 t, .int .i64 m, .slice pa X.length pc, .slice la pl.length lc, .slice da dr.length dc]) rfl rfl rfl fun w H => ?_
      refine ⟨?_⟩
      refine H.st0 (cs' := #[.int .i64 t, .int .i64 m, .slice pa X.length pc, .slice la pl.length lc, .slice xa ds.length xc]) rfl rfl rfl fun w H => ?_
      refine ⟨?_⟩
      refine H.ldi 1 rfl (v := .int .i64 t) rfl ?_
      refine H.ldi 1 rfl (v := .int .i64 m) rfl ?_
      refine H.ldi 1 rfl (v := .slice pa X.length pc) rfl ?_
      refine H.ldi 1 rfl (v := .slice la pl.length lc) rfl ?_
      refine H.ldi 1 rfl (v := .slice da dr.length dc) rfl ?_
      have h1 := H.pick [2, 0, 1] 3 (by decide)
      simp only [pk, nth, pkA, pkB, pkC, pkD, pkE, pkF] at h1
      refine Cl.sl (by kernel_rfl) (p_check hX hL hD h1) fun w H => ?_
      replace H := H.pick [1, 2, 0] 3 (by decide)
      simp only [pk, nth, pkA, pkB, pkC, pkD, pkE, pkF] at H
      rw [hck]
      refine BB.no rfl ?_
      refine H.ldi 0 rfl (v := .int .i64 t) rfl ?_
      refine H.ldi 0 rfl (v := .int .i64 m) rfl ?_
      refine H.ldi 0 rfl (v := .slice pa X.length pc) rfl ?_
      refine H.ldi 0 rfl (v := .slice la pl.length lc) rfl ?_
      refine H.ldi 0 rfl (v := .slice xa ds.length xc) rfl ?_
      have h1 := H.pick [2, 0, 1] 3 (by decide)
      simp only [pk, nth, pkA, pkB, pkC, pkD, pkE, pkF] at h1
      refine Cl.sl (by kernel_rfl) (p_check hX hL hE h1) fun w H => ?_
      replace H := H.pick [1, 2, 0] 3 (by decide)
      simp only [pk, nth, pkA, pkB, pkC, pkD, pkE, pkF] at H
      refine BB.yes (bne_iff_ne.2 hck2) ?_
      refine Cn.yes ?_
      refine ⟨?_⟩
      refine Cl.sl (by kernel_rfl) (l_hands H) fun w H => ?_
      refine BB.yes rfl ?_
      refine ret1 (fn := Tryz.f6) (.bool true) rfl (by rfl) ?_
      exact ⟨rfl, H.pick [2] 3 (by decide)⟩
    ·skip
     have h1 := of_decide_eq_true e1
     refine Cn.yes ?_
     refine ⟨?_⟩
     refine Cl.sl (by kernel_rfl) (l_hands H) fun w H => ?_
     refine BB.yes rfl ?_
     refine ret1 (fn := Tryz.f6) (.bool true) rfl (by rfl) ?_
     exact ⟨rfl, H.pick [1] 2 (by decide)⟩
   ·skip
    refine Cn.yes ?_
    refine ⟨?_⟩
    refine Cl.sl (by kernel_rfl) (l_hands H) fun w H => ?_
    refine BB.yes rfl ?_
    refine ret1 (fn := Tryz.f6) (.bool true) rfl (by rfl) ?_
    exact ⟨rfl, H.pick [1] 2 (by decide)⟩
 ·by_cases hck2 : checkE ⟨t, m, progsM X, pl, ds⟩ = 0
  ·skip
   refine calls_den (args := [_, _]) Tryz.func6 rfl (Nat.le_of_ble_eq_true (by kernel_rfl)) (by kernel_rfl) ?_
   refine ⟨?_⟩
   refine Nw.as #[.int .i64 t, .int .i64 m, .slice pa X.length pc, .slice la pl.length lc, .slice da dr.length dc] 25 rfl H fun b2 w H => ?_
   refine ⟨?_⟩
   refine H.ldi 0 rfl (v := .int .i64 t) rfl ?_
   refine H.ldi 0 rfl (v := .int .i64 m) rfl ?_
   refine H.ldi 0 rfl (v := .slice pa X.length pc) rfl ?_
   refine H.ldi 0 rfl (v := .slice la pl.length lc) rfl ?_
   refine H.ldi 0 rfl (v := .slice da dr.length dc) rfl ?_
   have h1 := H.pick [1, 0] 2 (by decide)
   simp only [pk, nth, pkA, pkB, pkC, pkD, pkE, pkF] at h1
   refine Cl.by (by kernel_rfl) (l_large hX hL hD h1) ?_
   rintro _ w ⟨bl, rfl, H⟩
   refine ⟨_, rfl, ?_⟩
   replace H := H.pick [1, 0] 2 (by decide)
   simp only [pk, nth, pkA, pkB, pkC, pkD, pkE, pkF] at H
   refine BB.k ?_
   cases bl
   ·skip
    refine BB.vr fun q1 e1 => ?_
    cases q1
    ·skip
     have h1 := of_decide_eq_false e1
     refine Cn.no ?_
     refine ⟨?_⟩
     refine H.ldi 0 rfl (v := .slice pa X.length pc) rfl ?_
     refine ⟨?_⟩
     refine den.loop (ι := Nat) [(4, 4), (6, 6), (8, 8), (25, 46)] (by kernel_rfl) (fun k => [(25, .int .i64 ↑k)]) (fun k w => (k ≤ X.length ∧ ((progsM X).take k).all plainP = true) ∧ SL w (row b2 #[.int .i64 t, .int .i64 m, .slice pa X.length pc, .slice la pl.length lc, .slice da dr.length dc] 25 :: A :: F)) (fun k => X.length - k) 0 ⟨rfl, trivial⟩ ⟨⟨Nat.zero_le _, rfl⟩, (H)⟩ ?_
     rintro k s w ⟨hc, H⟩
     have hob := Nat.lt_or_ge k X.length
     rcases hob with hk | hk
     ·skip
      have hob : ∃ z, X[k]? = some z := ⟨_, List.getElem?_eq_getElem hk⟩
      obtain ⟨px, hY⟩ := hob
      have hob := hX (by omega)
      obtain ⟨pb, po, rfl, hXA⟩ := hob
      have hM : (progsM X)[k]? = some (px.ops.map (·.op)) := by unfold progsM; rw [List.getElem?_map, hY]; rfl
      have hsome := hXA.some_ k px hY
      have hcase := hXA.case k px hY
      obtain ⟨ops, qa, qc⟩ := px
      dsimp only at hM hsome hcase
      have hom := hom0 _ (List.mem_of_getElem? hY)
      dsimp only at hom
      refine ⟨?_⟩
      refine BB.yes (decide_eq_true (by omega)) ?_
      refine Cn.yes ?_
      refine ⟨?_⟩
      refine ⟨?_⟩
      refine Ix.at k 1 (by kernel_rfl) (rfl) (hk) ?_
      refine H.ldPv 1 rfl hXA k hY (v := .slice qa ops.length qc) rfl ?_
      refine ⟨?_⟩
      refine ⟨?_⟩
      refine den.loop (ι := Nat) [(4, 4), (8, 8), (31, 45)] (by kernel_rfl) (fun i => [(31, .int .i64 ↑i)]) (fun i w => (i ≤ ops.length ∧ ((ops.map (·.op)).take i).all (fun o : OpM => !(o.kind == 6) || decide (o.cases.length ≤ 1)) = true) ∧ SL w (row b2 #[.int .i64 t, .int .i64 m, .slice (some ⟨pb, po, none⟩) X.length pc, .slice la pl.length lc, .slice da dr.length dc] 25 :: A :: F)) (fun i => ops.length - i) 0 ⟨rfl, trivial⟩ ⟨⟨Nat.zero_le _, rfl⟩, (H)⟩ ?_
      rintro i s w ⟨hd, H⟩
      have hob := Nat.lt_or_ge i ops.length
      rcases hob with hi | hi
      ·skip
       have hob := hsome (by omega)
       obtain ⟨qb, qo, rfl⟩ := hob
       have hob : ∃ z, ops[i]? = some z := ⟨_, List.getElem?_eq_getElem hi⟩
       obtain ⟨ox, hox⟩ := hob
       have hoM : (ops.map (·.op))[i]? = some ox.op := by rw [List.getElem?_map, hox]; rfl
       refine ⟨?_⟩
       refine BB.yes (decide_eq_true (by omega)) ?_
       refine Cn.yes ?_
       refine ⟨?_⟩
       refine ⟨?_⟩
       refine Ix.at i 5 (by kernel_rfl) (rfl) (hi) ?_
       refine H.ldO 1 rfl hXA k hY rfl i 0 hox (v := .int .i64 ox.op.kind) rfl ?_
       refine H.ldO 1 rfl hXA k hY rfl i 1 hox (v := .int .i64 ox.op.a) rfl ?_
       refine H.ldO 1 rfl hXA k hY rfl i 2 hox (v := .int .i64 ox.op.b) rfl ?_
       refine H.ldO 1 rfl hXA k hY rfl i 3 hox (v := .slice ox.ca ox.op.cases.length ox.cc) rfl ?_
       refine H.ldO 1 rfl hXA k hY rfl i 4 hox (v := .bool ox.op.dflt) rfl ?_
       refine Nw.as #[.int .i64 0, .int .i64 0, .int .i64 0, .slice none 0 0, .bool false] 44 rfl H fun b8 w H => ?_
       refine H.st0 (cs' := #[.int .i64 ox.op.kind, .int .i64 0, .int .i64 0, .slice none 0 0, .bool false]) rfl rfl rfl fun w H => ?_
       refine H.st0 (cs' := #[.int .i64 ox.op.kind, .int .i64 ox.op.a, .int .i64 0, .slice none 0 0, .bool false]) rfl rfl rfl fun w H => ?_
       refine H.st0 (cs' := #[.int .i64 ox.op.kind, .int .i64 ox.op.a, .int .i64 ox.op.b, .slice none 0 0, .bool false]) rfl rfl rfl fun w H => ?_
       refine H.st0 (cs' := #[.int .i64 ox.op.kind, .int .i64 ox.op.a, .int .i64 ox.op.b, .slice ox.ca ox.op.cases.length ox.cc, .bool false]) rfl rfl rfl fun w H => ?_
       refine H.st0 (cs' := #[.int .i64 ox.op.kind, .int .i64 ox.op.a, .int .i64 ox.op.b, .slice ox.ca ox.op.cases.length ox.cc, .bool ox.op.dflt]) rfl rfl rfl fun w H => ?_
       refine ⟨?_⟩
       refine H.ldi 0 rfl (v := .int .i64 ox.op.kind) rfl ?_
       refine BB.vr fun q2 e2 => ?_
       cases q2
       ·skip
        have h2 := beq_eq_false_iff_ne.1 e2
        refine Cn.no ?_
        refine ⟨?_⟩
        refine IW.by (wrap_id (n := ↑i + 1) (by omega) (by omega)) ?_
        have hone : (fun o : OpM => !(o.kind == 6) || decide (o.cases.length ≤ 1)) ox.op = true := by simp [show ox.op.kind ≠ 6 by assumption]
        exact ⟨i + 1, ⟨rfl, trivial⟩, ⟨⟨by omega, all_step (p := (fun o : OpM => !(o.kind == 6) || decide (o.cases.length ≤ 1))) hd.2 hoM hone⟩, H.pick [1, 2] 3 (by decide)⟩, (show ops.length - (i + 1) < ops.length - i by omega)⟩
       ·skip
        have h2 := eq_of_beq e2
        refine H.ldi 0 rfl (v := .slice ox.ca ox.op.cases.length ox.cc) rfl ?_
        refine BB.vr fun q3 e3 => ?_
        cases q3
        ·skip
         have h3 := of_decide_eq_false e3
         refine Cn.no ?_
         refine ⟨?_⟩
         refine IW.by (wrap_id (n := ↑i + 1) (by omega) (by omega)) ?_
         have hone : (fun o : OpM => !(o.kind == 6) || decide (o.cases.length ≤ 1)) ox.op = true := by simp; omega
         exact ⟨i + 1, ⟨rfl, trivial⟩, ⟨⟨by omega, all_step (p := (fun o : OpM => !(o.kind == 6) || decide (o.cases.length ≤ 1))) hd.2 hoM hone⟩, H.pick [1, 2] 3 (by decide)⟩, (show ops.length - (i + 1) < ops.length - i by omega)⟩
        ·skip
         have h3 := of_decide_eq_true e3
         refine Cn.yes ?_
         refine ⟨?_⟩
         refine Cl.sl (by kernel_rfl) (l_hands H) fun w H => ?_
         refine BB.yes rfl ?_
         refine ret1 (fn := Tryz.f6) (.bool true) rfl (by rfl) ?_
         exact ⟨rfl, H.pick [2] 3 (by decide)⟩
      ·skip
       have hob : i = ops.length := by omega
       obtain rfl := hob
       have hq := hd.2
       rw [List.take_of_length_le (by simp)] at hq
       refine ⟨?_⟩
       refine BB.no (decide_eq_false (by omega)) ?_
       refine Cn.no ?_
       refine ⟨?_⟩
       refine IW.by (wrap_id (n := ↑k + 1) (by omega) (by omega)) ?_
       have hone : plainP (ops.map (·.op)) = true := hq
       exact ⟨k + 1, ⟨rfl, trivial⟩, ⟨⟨by omega, all_step hc.2 hM hone⟩, H⟩, (show X.length - (k + 1) < X.length - k by omega)⟩
     ·skip
      have hob : k = X.length := by omega
      obtain rfl := hob
      have hpl6 := hc.2
      rw [List.take_of_length_le (by simp [progsM])] at hpl6
      refine ⟨?_⟩
      refine BB.no (decide_eq_false (by omega)) ?_
      refine Cn.no ?_
      refine ⟨?_⟩
      refine H.ldi 0 rfl (v := .int .i64 t) rfl ?_
      refine H.ldi 0 rfl (v := .int .i64 m) rfl ?_
      refine H.ldi 0 rfl (v := .slice pa X.length pc) rfl ?_
      refine H.ldi 0 rfl (v := .slice la pl.length lc) rfl ?_
      refine H.ldi 0 rfl (v := .slice da dr.length dc) rfl ?_
      refine Nw.as #[.int .i64 0, .int .i64 0, .slice none 0 0, .slice none 0 0, .slice none 0 0] 25 rfl H fun b9 w H => ?_
      refine H.st0 (cs' := #[.int .i64 t, .int .i64 0, .slice none 0 0, .slice none 0 0, .slice none 0 0]) rfl rfl rfl fun w H => ?_
      refine H.st0 (cs' := #[.int .i64 t, .int .i64 m, .slice none 0 0, .slice none 0 0, .slice none 0 0]) rfl rfl rfl fun w H => ?_
      refine H.st0 (cs' := #[.int .i64 t, .int .i64 m, .slice pa X.length pc, .slice none 0 0, .slice none 0 0]) rfl rfl rfl fun w H => ?_
      refine H.st0 (cs' := #[.int .i64 t, .int .i64 m, .slice pa X.length pc, .slice la pl.length lc, .slice none 0 0]) rfl rfl rfl fun w H => ?_
      refine H.st0 (cs' := #[.int .i64 t, .int .i64 m, .slice pa X.length pc, .slice la pl.length lc, .slice da dr.length dc]) rfl rfl rfl fun w H => ?_
      refine ⟨?_⟩
      refine H.st0 (cs' := #[.int .i64 t, .int .i64 m, .slice pa X.length pc, .slice la pl.length lc, .slice xa ds.length xc]) rfl rfl rfl fun w H => ?_
      refine ⟨?_⟩
      refine H.ldi 1 rfl (v := .int .i64 t) rfl ?_
      refine H.ldi 1 rfl (v := .int .i64 m) rfl ?_
      refine H.ldi 1 rfl (v := .slice pa X.length pc) rfl ?_
      refine H.ldi 1 rfl (v := .slice la pl.length lc) rfl ?_
      refine H.ldi 1 rfl (v := .slice da dr.length dc) rfl ?_
      have h1 := H.pick [2, 0, 1] 3 (by decide)
      simp only [pk, nth, pkA, pkB, pkC, pkD, pkE, pkF] at h1
      refine Cl.sl (by kernel_rfl) (p_check hX hL hD h1) fun w H => ?_
      replace H := H.pick [1, 2, 0] 3 (by decide)
      simp only [pk, nth, pkA, pkB, pkC, pkD, pkE, pkF] at H
      refine BB.yes (bne_iff_ne.2 hck) ?_
      refine Cn.yes ?_
      refine ⟨?_⟩
      refine Cl.sl (by kernel_rfl) (l_hands H) fun w H => ?_
      refine BB.yes rfl ?_
      refine ret1 (fn := Tryz.f6) (.bool true) rfl (by rfl) ?_
      exact ⟨rfl, H.pick [2] 3 (by decide)⟩
    ·skip
     have h1 := of_decide_eq_true e1
     refine Cn.yes ?_
     refine ⟨?_⟩
     refine Cl.sl (by kernel_rfl) (l_hands H) fun w H => ?_
     refine BB.yes rfl ?_
     refine ret1 (fn := Tryz.f6) (.bool true) rfl (by rfl) ?_
     exact ⟨rfl, H.pick [1] 2 (by decide)⟩
   ·skip
    refine Cn.yes ?_
    refine ⟨?_⟩
    refine Cl.sl (by kernel_rfl) (l_hands H) fun w H => ?_
    refine BB.yes rfl ?_
    refine ret1 (fn := Tryz.f6) (.bool true) rfl (by rfl) ?_
    exact ⟨rfl, H.pick [1] 2 (by decide)⟩
  ·skip
   refine calls_den (args := [_, _]) Tryz.func6 rfl (Nat.le_of_ble_eq_true (by kernel_rfl)) (by kernel_rfl) ?_
   refine ⟨?_⟩
   refine Nw.as #[.int .i64 t, .int .i64 m, .slice pa X.length pc, .slice la pl.length lc, .slice da dr.length dc] 25 rfl H fun b2 w H => ?_
   refine ⟨?_⟩
   refine H.ldi 0 rfl (v := .int .i64 t) rfl ?_
   refine H.ldi 0 rfl (v := .int .i64 m) rfl ?_
   refine H.ldi 0 rfl (v := .slice pa X.length pc) rfl ?_
   refine H.ldi 0 rfl (v := .slice la pl.length lc) rfl ?_
   refine H.ldi 0 rfl (v := .slice da dr.length dc) rfl ?_
   have h1 := H.pick [1, 0] 2 (by decide)
   simp only [pk, nth, pkA, pkB, pkC, pkD, pkE, pkF] at h1
   refine Cl.by (by kernel_rfl) (l_large hX hL hD h1) ?_
   rintro _ w ⟨bl, rfl, H⟩
   refine ⟨_, rfl, ?_⟩
   replace H := H.pick [1, 0] 2 (by decide)
   simp only [pk, nth, pkA, pkB, pkC, pkD, pkE, pkF] at H
   refine BB.k ?_
   cases bl
   ·skip
    refine BB.vr fun q1 e1 => ?_
    cases q1
    ·skip
     have h1 := of_decide_eq_false e1
     refine Cn.no ?_
     refine ⟨?_⟩
     refine H.ldi 0 rfl (v := .slice pa X.length pc) rfl ?_
     refine ⟨?_⟩
     refine den.loop (ι := Nat) [(4, 4), (6, 6), (8, 8), (25, 46)] (by kernel_rfl) (fun k => [(25, .int .i64 ↑k)]) (fun k w => (k ≤ X.length ∧ ((progsM X).take k).all plainP = true) ∧ SL w (row b2 #[.int .i64 t, .int .i64 m, .slice pa X.length pc, .slice la pl.length lc, .slice da dr.length dc] 25 :: A :: F)) (fun k => X.length - k) 0 ⟨rfl, trivial⟩ ⟨⟨Nat.zero_le _, rfl⟩, (H)⟩ ?_
     rintro k s w ⟨hc, H⟩
     have hob := Nat.lt_or_ge k X.length
     rcases hob with hk | hk
     ·skip
      have hob : ∃ z, X[k]? = some z := ⟨_, List.getElem?_eq_getElem hk⟩
      obtain ⟨px, hY⟩ := hob
      have hob := hX (by omega)
      obtain ⟨pb, po, rfl, hXA⟩ := hob
      have hM : (progsM X)[k]? = some (px.ops.map (·.op)) := by unfold progsM; rw [List.getElem?_map, hY]; rfl
      have hsome := hXA.some_ k px hY
      have hcase := hXA.case k px hY
      obtain ⟨ops, qa, qc⟩ := px
      dsimp only at hM hsome hcase
      have hom := hom0 _ (List.mem_of_getElem? hY)
      dsimp only at hom
      refine ⟨?_⟩
      refine BB.yes (decide_eq_true (by omega)) ?_
      refine Cn.yes ?_
      refine ⟨?_⟩
      refine ⟨?_⟩
      refine Ix.at k 1 (by kernel_rfl) (rfl) (hk) ?_
      refine H.ldPv 1 rfl hXA k hY (v := .slice qa ops.length qc) rfl ?_
      refine ⟨?_⟩
      refine ⟨?_⟩
      refine den.loop (ι := Nat) [(4, 4), (8, 8), (31, 45)] (by kernel_rfl) (fun i => [(31, .int .i64 ↑i)]) (fun i w => (i ≤ ops.length ∧ ((ops.map (·.op)).take i).all (fun o : OpM => !(o.kind == 6) || decide (o.cases.length ≤ 1)) = true) ∧ SL w (row b2 #[.int .i64 t, .int .i64 m, .slice (some ⟨pb, po, none⟩) X.length pc, .slice la pl.length lc, .slice da dr.length dc] 25 :: A :: F)) (fun i => ops.length - i) 0 ⟨rfl, trivial⟩ ⟨⟨Nat.zero_le _, rfl⟩, (H)⟩ ?_
      rintro i s w ⟨hd, H⟩
      have hob := Nat.lt_or_ge i ops.length
      rcases hob with hi | hi
      ·skip
       have hob := hsome (by omega)
       obtain ⟨qb, qo, rfl⟩ := hob
       have hob : ∃ z, ops[i]? = some z := ⟨_, List.getElem?_eq_getElem hi⟩
       obtain ⟨ox, hox⟩ := hob
       have hoM : (ops.map (·.op))[i]? = some ox.op := by rw [List.getElem?_map, hox]; rfl
       refine ⟨?_⟩
       refine BB.yes (decide_eq_true (by omega)) ?_
       refine Cn.yes ?_
       refine ⟨?_⟩
       refine ⟨?_⟩
       refine Ix.at i 5 (by kernel_rfl) (rfl) (hi) ?_
       refine H.ldO 1 rfl hXA k hY rfl i 0 hox (v := .int .i64 ox.op.kind) rfl ?_
       refine H.ldO 1 rfl hXA k hY rfl i 1 hox (v := .int .i64 ox.op.a) rfl ?_
       refine H.ldO 1 rfl hXA k hY rfl i 2 hox (v := .int .i64 ox.op.b) rfl ?_
       refine H.ldO 1 rfl hXA k hY rfl i 3 hox (v := .slice ox.ca ox.op.cases.length ox.cc) rfl ?_
       refine H.ldO 1 rfl hXA k hY rfl i 4 hox (v := .bool ox.op.dflt) rfl ?_
       refine Nw.as #[.int .i64 0, .int .i64 0, .int .i64 0, .slice none 0 0, .bool false] 44 rfl H fun b8 w H => ?_
       refine H.st0 (cs' := #[.int .i64 ox.op.kind, .int .i64 0, .int .i64 0, .slice none 0 0, .bool false]) rfl rfl rfl fun w H => ?_
       refine H.st0 (cs' := #[.int .i64 ox.op.kind, .int .i64 ox.op.a, .int .i64 0, .slice none 0 0, .bool false]) rfl rfl rfl fun w H => ?_
       refine H.st0 (cs' := #[.int .i64 ox.op.kind, .int .i64 ox.op.a, .int .i64 ox.op.b, .slice none 0 0, .bool false]) rfl rfl rfl fun w H => ?_
       refine H.st0 (cs' := #[.int .i64 ox.op.kind, .int .i64 ox.op.a, .int .i64 ox.op.b, .slice ox.ca ox.op.cases.length ox.cc, .bool false]) rfl rfl rfl fun w H => ?_
       refine H.st0 (cs' := #[.int .i64 ox.op.kind, .int .i64 ox.op.a, .int .i64 ox.op.b, .slice ox.ca ox.op.cases.length ox.cc, .bool ox.op.dflt]) rfl rfl rfl fun w H => ?_
       refine ⟨?_⟩
       refine H.ldi 0 rfl (v := .int .i64 ox.op.kind) rfl ?_
       refine BB.vr fun q2 e2 => ?_
       cases q2
       ·skip
        have h2 := beq_eq_false_iff_ne.1 e2
        refine Cn.no ?_
        refine ⟨?_⟩
        refine IW.by (wrap_id (n := ↑i + 1) (by omega) (by omega)) ?_
        have hone : (fun o : OpM => !(o.kind == 6) || decide (o.cases.length ≤ 1)) ox.op = true := by simp [show ox.op.kind ≠ 6 by assumption]
        exact ⟨i + 1, ⟨rfl, trivial⟩, ⟨⟨by omega, all_step (p := (fun o : OpM => !(o.kind == 6) || decide (o.cases.length ≤ 1))) hd.2 hoM hone⟩, H.pick [1, 2] 3 (by decide)⟩, (show ops.length - (i + 1) < ops.length - i by omega)⟩
       ·skip
        have h2 := eq_of_beq e2
        refine H.ldi 0 rfl (v := .slice ox.ca ox.op.cases.length ox.cc) rfl ?_
        refine BB.vr fun q3 e3 => ?_
        cases q3
        ·skip
         have h3 := of_decide_eq_false e3
         refine Cn.no ?_
         refine ⟨?_⟩
         refine IW.by (wrap_id (n := ↑i + 1) (by omega) (by omega)) ?_
         have hone : (fun o : OpM => !(o.kind == 6) || decide (o.cases.length ≤ 1)) ox.op = true := by simp; omega
         exact ⟨i + 1, ⟨rfl, trivial⟩, ⟨⟨by omega, all_step (p := (fun o : OpM => !(o.kind == 6) || decide (o.cases.length ≤ 1))) hd.2 hoM hone⟩, H.pick [1, 2] 3 (by decide)⟩, (show ops.length - (i + 1) < ops.length - i by omega)⟩
        ·skip
         have h3 := of_decide_eq_true e3
         refine Cn.yes ?_
         refine ⟨?_⟩
         refine Cl.sl (by kernel_rfl) (l_hands H) fun w H => ?_
         refine BB.yes rfl ?_
         refine ret1 (fn := Tryz.f6) (.bool true) rfl (by rfl) ?_
         exact ⟨rfl, H.pick [2] 3 (by decide)⟩
      ·skip
       have hob : i = ops.length := by omega
       obtain rfl := hob
       have hq := hd.2
       rw [List.take_of_length_le (by simp)] at hq
       refine ⟨?_⟩
       refine BB.no (decide_eq_false (by omega)) ?_
       refine Cn.no ?_
       refine ⟨?_⟩
       refine IW.by (wrap_id (n := ↑k + 1) (by omega) (by omega)) ?_
       have hone : plainP (ops.map (·.op)) = true := hq
       exact ⟨k + 1, ⟨rfl, trivial⟩, ⟨⟨by omega, all_step hc.2 hM hone⟩, H⟩, (show X.length - (k + 1) < X.length - k by omega)⟩
     ·skip
      have hob : k = X.length := by omega
      obtain rfl := hob
      have hpl6 := hc.2
      rw [List.take_of_length_le (by simp [progsM])] at hpl6
      refine ⟨?_⟩
      refine BB.no (decide_eq_false (by omega)) ?_
      refine Cn.no ?_
      refine ⟨?_⟩
      refine H.ldi 0 rfl (v := .int .i64 t) rfl ?_
      refine H.ldi 0 rfl (v := .int .i64 m) rfl ?_
      refine H.ldi 0 rfl (v := .slice pa X.length pc) rfl ?_
      refine H.ldi 0 rfl (v := .slice la pl.length lc) rfl ?_
      refine H.ldi 0 rfl (v := .slice da dr.length dc) rfl ?_
      refine Nw.as #[.int .i64 0, .int .i64 0, .slice none 0 0, .slice none 0 0, .slice none 0 0] 25 rfl H fun b9 w H => ?_
      refine H.st0 (cs' := #[.int .i64 t, .int .i64 0, .slice none 0 0, .slice none 0 0, .slice none 0 0]) rfl rfl rfl fun w H => ?_
      refine H.st0 (cs' := #[.int .i64 t, .int .i64 m, .slice none 0 0, .slice none 0 0, .slice none 0 0]) rfl rfl rfl fun w H => ?_
      refine H.st0 (cs' := #[.int .i64 t, .int .i64 m, .slice pa X.length pc, .slice none 0 0, .slice none 0 0]) rfl rfl rfl fun w H => ?_
      refine H.st0 (cs' := #[.int .i64 t, .int .i64 m, .slice pa X.length pc, .slice la pl.length lc, .slice none 0 0]) rfl rfl rfl fun w H => ?_
      refine H.st0 (cs' := #[.int .i64 t, .int .i64 m, .slice pa X.length pc, .slice la pl.length lc, .slice da dr.length dc]) rfl rfl rfl fun w H => ?_
      refine ⟨?_⟩
      refine H.st0 (cs' := #[.int .i64 t, .int .i64 m, .slice pa X.length pc, .slice la pl.length lc, .slice xa ds.length xc]) rfl rfl rfl fun w H => ?_
      refine ⟨?_⟩
      refine H.ldi 1 rfl (v := .int .i64 t) rfl ?_
      refine H.ldi 1 rfl (v := .int .i64 m) rfl ?_
      refine H.ldi 1 rfl (v := .slice pa X.length pc) rfl ?_
      refine H.ldi 1 rfl (v := .slice la pl.length lc) rfl ?_
      refine H.ldi 1 rfl (v := .slice da dr.length dc) rfl ?_
      have h1 := H.pick [2, 0, 1] 3 (by decide)
      simp only [pk, nth, pkA, pkB, pkC, pkD, pkE, pkF] at h1
      refine Cl.sl (by kernel_rfl) (p_check hX hL hD h1) fun w H => ?_
      replace H := H.pick [1, 2, 0] 3 (by decide)
      simp only [pk, nth, pkA, pkB, pkC, pkD, pkE, pkF] at H
      refine BB.yes (bne_iff_ne.2 hck) ?_
      refine Cn.yes ?_
      refine ⟨?_⟩
      refine Cl.sl (by kernel_rfl) (l_hands H) fun w H => ?_
      refine BB.yes rfl ?_
      refine ret1 (fn := Tryz.f6) (.bool true) rfl (by rfl) ?_
      exact ⟨rfl, H.pick [2] 3 (by decide)⟩
    ·skip
     have h1 := of_decide_eq_true e1
     refine Cn.yes ?_
     refine ⟨?_⟩
     refine Cl.sl (by kernel_rfl) (l_hands H) fun w H => ?_
     refine BB.yes rfl ?_
     refine ret1 (fn := Tryz.f6) (.bool true) rfl (by rfl) ?_
     exact ⟨rfl, H.pick [1] 2 (by decide)⟩
   ·skip
    refine Cn.yes ?_
    refine ⟨?_⟩
    refine Cl.sl (by kernel_rfl) (l_hands H) fun w H => ?_
    refine BB.yes rfl ?_
    refine ret1 (fn := Tryz.f6) (.bool true) rfl (by rfl) ?_
    exact ⟨rfl, H.pick [1] 2 (by decide)⟩
theorem loomDraws_walk {w : World} {v : Value} {s : ScrX} (y : ScrIn w v s) {u : Value} {d : IntsX} (z : IntsIn w u d) : Calls Tryz.prog 6 #[v, u] w fun e w' => e = .returned (.bool true) ∧ Frm Nil w w' := by
 have hv := y.val
 have hu := z.val
 subst hv hu
 refine (l_draws (F := []) (fun h => Old.scr y.progs h) (Old.rd y.plan) (Old.rd y.draws) (Old.rd z.rd) y.progs.len (fun p hp => (y.progs.prog p hp).2.1) (SL.start w)).mono ?_
 rintro e w' ⟨rfl, H⟩
 exact ⟨rfl, H.old⟩
end Go.Proofs.YtcgajljbahbhdaaGreat
