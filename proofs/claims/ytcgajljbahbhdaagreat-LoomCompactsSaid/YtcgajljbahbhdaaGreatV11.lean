/- Texts of the proof, several in one file: SxC, SxG, Loom10, Loom11. -/
import Derived.Test.YtcgajljbahbhdaaGreatV06
import Derived.Test.YtcgajljbahbhdaaGreatV05
import Derived.Test.YtcgajljbahbhdaaGreatV02
import Derived.ScopeJumps
import Derived.Test.YtcgajljbahbhdaaGreatV07
namespace Go.Proofs.YtcgajljbahbhdaaGreat
set_option linter.unusedVariables false
set_option linter.unusedSimpArgs false
open Go.RowKit
section
variable {P : Program} {w : World} {L : List Piece} {σ : Fr}
theorem ret3C {fn : Func} {R : Ending → World → Prop} {t p u ty b te : Nat} {cs : Array Value} {v y : Value} (H : SL w L) (i : Nat) (hi : L[i]? = some (row b cs te)) (hr : fn.results = #[.tmp t, .cell p ty, .tmp u]) (hv : σ t = v) (hp : σ p = .pointer (some ⟨b, 0, none⟩)) (hy : σ u = y)
  (hd : (match P.underlying ty with | some (.struct _) => true | some (.array _ _) => true | _ => false) = true) (hs : (P.info? ty).map (·.size) = some cs.size) (h : R (.returned (.tuple #[v, .agg cs, y])) w) : RetOf P fn R σ w := by
 cases hu : P.underlying ty with
 | none => rw [hu] at hd; cases hd
 | some d =>
  rw [hu] at hd
  have key : ((loadVar ty ⟨b, 0, none⟩).run P w) = .ok (.agg cs) w := by
   cases d <;> first | (cases hd; done) | exact run_loadVar_row w b te ty cs (0, 0) _ (H.at i hi) hu rfl hs
  refine ⟨⟨_, fun a ha => ?_, h⟩⟩
  have h1 := ha t
  have h2 := ha p
  have h3 := ha u
  rw [hv] at h1
  rw [hp] at h2
  rw [hy] at h3
  have hp' : a.tmps[p]?.getD undef = .pointer (some ⟨b, 0, none⟩) := by simpa using h2
  have h1' : a.tmps[t]?.getD undef = v := by simpa using h1
  have h3' : a.tmps[u]?.getD undef = y := by simpa using h3
  simp [results, hr, h1', h3', hp', asAddr, key]
theorem run_cut {t lo n c te sz : Nat} {op : Oper} (x l : Operand) (hop : op.op = .slice t x (some l) none none) (ht : P.underlying t = some (.slice te)) (hsz : (P.info? te).map (·.size) = some sz) {a : Option Addr} (hn : lo ≤ n) (hc : n ≤ c)
  (hx : ev σ x = .slice a n c) (hl : ev σ l = .int .i64 (lo : Int)) (w : World) : (execOp (ev σ) op).run P w = .ok (.value (.slice (if c = lo then a else a.map (·.add (lo * sz))) (n - lo) (c - lo))) w := by
 obtain ⟨i, hi, hs⟩ := Option.map_eq_some_iff.1 hsz
 have hle : (lo : Int) ≤ (n : Int) := by omega
 have h1 : ¬ (n < lo) := by omega
 have h2 : ¬ ((lo : Int) < 0) := by omega
 by_cases hc1 : c = lo
 ·subst hc1
  have hnc : n = c := by omega
  subst hnc
  simp [execOp, hop, hx, hl, Instr.sliceAt, Instr.slice, run_underlying ht, Instr.sliceBounds, Instr.sliceBound, asIntOf, sizeOf, typeInfo, hi, Result.andThen]
 ·simp [execOp, hop, hx, hl, Instr.sliceAt, Instr.slice, run_underlying ht, Instr.sliceBounds, Instr.sliceBound, asIntOf, hle, h1, hn, sizeOf, typeInfo, hi, hs, hc1, Result.andThen]
/-- v[lo:] of a slice of one's own, to be read. -/
theorem Mn.cutS {te sz n lo : Nat} {v : Value} {xs : List Value} {op : Oper} {K : Value → World → Prop} (H : SL w L) (i : Nat) (hi : L[i]? = some (Slc te sz v n xs)) (x l : Operand) (t : Nat) (hop : op.op = .slice t x (some l) none none) (ht : P.underlying t = some (.slice te)) (hsz : (P.info? te).map (·.size) = some sz)
  (hx : ev σ x = v) (hl : ev σ l = .int .i64 (lo : Int)) (hlo : lo ≤ n) (k : ∀ a c, Reader (Slc te sz v n xs) sz a (n - lo) (xs.drop (lo * sz)) → K (.slice a (n - lo) c) w) : Mn P σ op w K := by
 obtain ⟨T, _, h, _⟩ := SLs.at i H hi
 obtain ⟨hlen, h2⟩ := h
 rcases h2 with ⟨rfl, h0⟩ | ⟨g, cap, cur, rfl, _, hg, hnc, hcm, hcs, htake⟩
 ·subst h0
  refine Mn.by (run_cut x l hop ht hsz hlo (Nat.le_refl _) hx hl w) ?_
  refine k _ _ (fun S w' hS => ⟨?_, by rw [Nat.zero_sub]; exact Nat.zero_le _, fun hn => ?_⟩)
  ·rw [List.length_drop, hlen]; simp
  ·omega
 ·refine Mn.by (run_cut x l hop ht hsz hlo hnc hx hl w) ?_
  refine k _ _ (fun S w' hS => ?_)
  refine ⟨by rw [List.length_drop, hlen, Nat.sub_mul], by omega, fun hn => ?_⟩
  have hc1 : cap ≠ lo := by omega
  rw [if_neg hc1]
  refine ⟨g, 0 + lo * sz, by simp only [Option.map_some, Addr_add], fun j u hu => ?_⟩
  rw [List.getElem?_drop] at hu
  have := own_cell hS.1 hu
  rw [Nat.zero_add]
  exact this
end
end Go.Proofs.YtcgajljbahbhdaaGreat
namespace Go.Proofs.YtcgajljbahbhdaaGreat
set_option linter.unusedVariables false
set_option linter.unusedSimpArgs false
open Go.RowKit
/-- A goto as an exit. -/
def ungo : Code → Code
 | .seq a b => .seq (ungo a) (ungo b)
 | .cond t a b => .cond t (ungo a) (ungo b)
 | .block i c => .block i (ungo c)
 | .goto l => .exit (1000000 + l)
 | .label _ => .skip
 | c => c
def fineG (n : Nat) : Code → Bool
 | .seq a b => fineG n a && fineG n b
 | .cond _ a b => fineG n a && fineG n b
 | .block i c => decide (i < 1000000) && fineG n c
 | .exit i => decide (i < 1000000)
 | .goto _ | .label _ => true
 | .skip | .ret => true
 | .region _ ops _ => dstOk n ops
 | _ => false
section
variable {n : Nat} {P : Program}
theorem den_wpG : ∀ (c : Code), fineG n c = true → ∀ (a : Act) (σ : Fr) (w : World) (K : Fr → World → Prop) (X : Nat → Fr → World → Prop) (R : Fr → World → Prop) (Q : Exit → Act → World → Prop),
  Sim n a σ → (∀ a σ w, Sim n a σ → K σ w → Q .normal a w) → (∀ i a σ w, i < 1000000 → Sim n a σ → X i σ w → Q (.exit i) a w) → (∀ l a σ w, Sim n a σ → X (1000000 + l) σ w → Q (.goto l) a w) → (∀ a σ w, Sim n a σ → R σ w → Q .ret a w) → den P n (ungo c) σ w K X R → c.wp P Q a w := by
 intro c
 induction c with
 | skip => exact fun _ a σ w K X R Q hs hK hX hG hR h => wp_skip (hK _ _ _ hs h)
 | exit i => exact fun hf a σ w K X R Q hs hK hX hG hR h => wp_exit (hX _ _ _ _ (of_decide_eq_true hf) hs h)
 | goto l => exact fun hf a σ w K X R Q hs hK hX hG hR h => wp_goto (hG _ _ _ _ hs h)
 | label l => exact fun hf a σ w K X R Q hs hK hX hG hR h => wp_label (hK _ _ _ hs h)
 | ret => exact fun _ a σ w K X R Q hs hK hX hG hR h => wp_ret (hR _ _ _ hs h)
 | region id ops d =>
  intro hf a σ w K X R Q hs hK hX hG hR h
  exact den_wp (.region id ops d) hf a σ w K (fun _ _ _ => False) (fun _ _ => False) Q hs hK (fun _ _ _ _ _ h => h.elim) (fun _ _ _ _ h => h.elim) h
 | seq x y ihx ihy =>
  intro hf a σ w K X R Q hs hK hX hG hR h
  simp only [fineG, Bool.and_eq_true] at hf
  exact wp_seq (ihx hf.1 a σ w _ X R _ hs (fun a σ w hs h => ihy hf.2 a σ w K X R Q hs hK hX hG hR h) hX hG hR h)
 | cond c x y ihx ihy =>
  intro hf a σ w K X R Q hs hK hX hG hR h
  simp only [fineG, Bool.and_eq_true] at hf
  obtain ⟨b, hb, h1, h2⟩ := h.out.out
  rw [hs.ev] at hb
  exact wp_cond_split hb (fun e => ihx hf.1 a σ w K X R Q hs hK hX hG hR (h1 e)) (fun e => ihy hf.2 a σ w K X R Q hs hK hX hG hR (h2 e))
 | block id c ih =>
  intro hf a σ w K X R Q hs hK hX hG hR h
  simp only [fineG, Bool.and_eq_true, decide_eq_true_eq] at hf
  refine wp_block (ih hf.2 a σ w K _ R _ hs hK ?_ ?_ hR h.out)
  ·intro i a σ w hi hs h
   simp only [Exit.inBlock]
   by_cases e : i = id
   ·subst e
    rw [if_pos rfl]
    rw [show Nat.beq i i = true from Nat.beq_refl i] at h
    exact hK _ _ _ hs h
   ·rw [if_neg e]
    have : Nat.beq i id = false := by cases hb : Nat.beq i id <;> first | rfl | exact absurd (Nat.eq_of_beq_eq_true hb) e
    rw [this] at h
    exact hX _ _ _ _ hi hs h
  ·intro l a σ w hs h
   have : Nat.beq (1000000 + l) id = false := by cases hb : Nat.beq (1000000 + l) id <;> first | rfl | exact absurd (Nat.eq_of_beq_eq_true hb) (by omega)
   rw [this] at h
   exact hG _ _ _ _ hs h
 | _ => exact fun hf => by simp [fineG] at hf
/-- A function in a scope: what jumps to the label goes on with what stands behind it. -/
theorem calls_scope {f : FuncId} {fn : Func} {c0 c rest : Code} {args : List Value} {w : World} {R : Ending → World → Prop} (l : Nat) (hf : P.funcs[f]? = some fn) (hb : fn.body = some (.seq c0 (.scope c))) (hl : findLabel c l = some rest) (hn : args.length ≤ fn.ntmps) (hc0 : fine fn.ntmps c0 = true) (hc : fineG fn.ntmps c = true) (hr : fine fn.ntmps rest = true)
  (h : den P fn.ntmps c0 (frame0 args) w (fun σ w => den P fn.ntmps (ungo c) σ w (RetOf P fn R) (fun i σ w => i = 1000000 + l ∧ den P fn.ntmps rest σ w (RetOf P fn R) (fun _ _ _ => False) (RetOf P fn R)) (RetOf P fn R)) (fun _ _ _ => False) (RetOf P fn R)) : Calls P f args.toArray w R := by
 have hret : ∀ (a : Act) (σ : Fr) (w : World), Sim fn.ntmps a σ → RetOf P fn R σ w → bodyPost P fn R .ret a w := by
  rintro a σ w' ⟨s1, s2, rfl⟩ ⟨⟨v, h1, h2⟩⟩
  exact ⟨s2, v, h1 a (fun _ => rfl), h2⟩
 have hnorm : ∀ (a : Act) (σ : Fr) (w : World), Sim fn.ntmps a σ → RetOf P fn R σ w → bodyPost P fn R .normal a w := by
  rintro a σ w' ⟨s1, s2, rfl⟩ ⟨⟨v, h1, h2⟩⟩
  exact ⟨s2, v, h1 a (fun _ => rfl), h2⟩
 refine calls_of_wp hf hb (wp_seq (den_wp c0 hc0 _ _ w _ (fun _ _ _ => False) (RetOf P fn R) _ ⟨?_, rfl, ?_⟩ ?_ (fun _ _ _ _ _ h => h.elim) hret h))
 ·simp; omega
 ·funext i
  unfold frame0
  simp only [Array.getD_eq_getD_getElem?, Array.getElem?_append, Array.getElem?_replicate]
  by_cases hi : i < args.length
  ·simp [hi]
  ·simp [hi]
   split <;> rfl
 intro a σ w hs h
 refine wp_scope_jumps l (fun a w => ∃ σ, Sim fn.ntmps a σ ∧ den P fn.ntmps rest σ w (RetOf P fn R) (fun _ _ _ => False) (RetOf P fn R)) (fun _ _ => 0) hl
  (den_wpG c hc _ _ w (RetOf P fn R) (fun i σ w => i = 1000000 + l ∧ den P fn.ntmps rest σ w (RetOf P fn R) (fun _ _ _ => False) (RetOf P fn R)) (RetOf P fn R) _ hs hnorm (fun i _ _ _ hi _ h => by omega) ?_ hret h) ?_
 ·rintro k a σ w' hs ⟨hk, h⟩
  exact ⟨by omega, σ, hs, h⟩
 ·rintro a w' ⟨σ, hs, h⟩
  exact den_wp rest hr a σ w' _ _ _ _ hs hnorm (fun _ _ _ _ _ h => h.elim) hret h
end
end Go.Proofs.YtcgajljbahbhdaaGreat
namespace Go.Proofs.YtcgajljbahbhdaaGreat
set_option linter.unusedVariables false
set_option linter.unusedSimpArgs false
open Go.RowKit
set_option maxRecDepth 100000
theorem r_within04 {w : World} {F : List Piece} (n c np : Int) (H : SL w F) : Calls Tryz.prog 108 #[.int .i64 n, .int .u8 c, .int .i64 np] w fun o w' => o = .returned (.bool (withinF n c np)) ∧ SL w' F := by
 refine calls_den (args := [_, _, _]) Tryz.func108 rfl (Nat.le_of_ble_eq_true (by kernel_rfl)) (by kernel_rfl) ?_
 refine ⟨?_⟩
 refine ⟨?_⟩
 refine ⟨?_⟩
 refine ⟨?_⟩
 refine BB.vr fun q1 e1 => ?_
 cases q1
 ·skip
  have h1 := beq_eq_false_iff_ne.1 e1
  refine Cn.no ?_
  refine ⟨?_⟩
  refine BB.vr fun q2 e2 => ?_
  cases q2
  ·skip
   have h2 := beq_eq_false_iff_ne.1 e2
   refine Cn.no ?_
   refine ⟨?_⟩
   refine BB.vr fun q3 e3 => ?_
   cases q3
   ·skip
    have h3 := beq_eq_false_iff_ne.1 e3
    refine Cn.no ?_
    refine ⟨?_⟩
    refine BB.vr fun q4 e4 => ?_
    cases q4
    ·skip
     have h4 := beq_eq_false_iff_ne.1 e4
     refine Cn.no ?_
     refine ⟨?_⟩
     refine BB.vr fun q5 e5 => ?_
     cases q5
     ·skip
      have h5 := beq_eq_false_iff_ne.1 e5
      refine Cn.no ?_
      refine ⟨?_⟩
      refine BB.k ?_
      refine ret1 (fn := Tryz.f108) (.bool (n == 0)) rfl (by rfl) ?_
      have hc : withinF n c np = (n == 0) := by unfold withinF; first | (simp [*]; done) | (simp [*]; omega)
      rw [hc]
      exact ⟨rfl, H⟩
     ·skip
      have h5 := eq_of_beq e5
      refine Cn.yes ?_
      refine ⟨?_⟩
      refine BB.vr fun q6 e6 => ?_
      cases q6
      ·skip
       have h6 := of_decide_eq_false e6
       refine ret1 (fn := Tryz.f108) (.bool false) rfl (by rfl) ?_
       have hc : withinF n c np = (false) := by unfold withinF; first | (simp [*]; done) | (simp [*]; omega)
       rw [hc]
       exact ⟨rfl, H⟩
      ·skip
       have h6 := of_decide_eq_true e6
       refine BB.k ?_
       refine ret1 (fn := Tryz.f108) (.bool (decide (n ≤ 99))) rfl (by rfl) ?_
       have hc : withinF n c np = (decide (n ≤ 99)) := by unfold withinF; first | (simp [*]; done) | (simp [*]; omega)
       rw [hc]
       exact ⟨rfl, H⟩
    ·skip
     have h4 := eq_of_beq e4
     refine Cn.yes ?_
     refine ⟨?_⟩
     refine BB.vr fun q7 e7 => ?_
     cases q7
     ·skip
      have h7 := of_decide_eq_false e7
      refine ret1 (fn := Tryz.f108) (.bool false) rfl (by rfl) ?_
      have hc : withinF n c np = (false) := by unfold withinF; first | (simp [*]; done) | (simp [*]; omega)
      rw [hc]
      exact ⟨rfl, H⟩
     ·skip
      have h7 := of_decide_eq_true e7
      refine BB.k ?_
      refine ret1 (fn := Tryz.f108) (.bool (decide (n ≤ 4))) rfl (by rfl) ?_
      have hc : withinF n c np = (decide (n ≤ 4)) := by unfold withinF; first | (simp [*]; done) | (simp [*]; omega)
      rw [hc]
      exact ⟨rfl, H⟩
   ·skip
    have h3 := eq_of_beq e3
    refine Cn.yes ?_
    refine ⟨?_⟩
    refine BB.vr fun q8 e8 => ?_
    cases q8
    ·skip
     have h8 := of_decide_eq_false e8
     refine ret1 (fn := Tryz.f108) (.bool false) rfl (by rfl) ?_
     have hc : withinF n c np = (false) := by unfold withinF; first | (simp [*]; done) | (simp [*]; omega)
     rw [hc]
     exact ⟨rfl, H⟩
    ·skip
     have h8 := of_decide_eq_true e8
     refine BB.k ?_
     refine ret1 (fn := Tryz.f108) (.bool (decide (n < 8))) rfl (by rfl) ?_
     have hc : withinF n c np = (decide (n < 8)) := by unfold withinF; first | (simp [*]; done) | (simp [*]; omega)
     rw [hc]
     exact ⟨rfl, H⟩
  ·skip
   have h2 := eq_of_beq e2
   refine Cn.yes ?_
   refine Cn.yes ?_
   refine ⟨?_⟩
   refine BB.vr fun q9 e9 => ?_
   cases q9
   ·skip
    have h9 := of_decide_eq_false e9
    refine ret1 (fn := Tryz.f108) (.bool false) rfl (by rfl) ?_
    have hc : withinF n c np = (false) := by unfold withinF; first | (simp [*]; done) | (simp [*]; omega)
    rw [hc]
    exact ⟨rfl, H⟩
   ·skip
    have h9 := of_decide_eq_true e9
    refine BB.k ?_
    refine ret1 (fn := Tryz.f108) (.bool (decide (n < 8))) rfl (by rfl) ?_
    have hc : withinF n c np = (decide (n < 8)) := by unfold withinF; first | (simp [*]; done) | (simp [*]; omega)
    rw [hc]
    exact ⟨rfl, H⟩
 ·skip
  have h1 := eq_of_beq e1
  refine Cn.yes ?_
  refine ⟨?_⟩
  refine BB.vr fun q10 e10 => ?_
  cases q10
  ·skip
   have h10 := of_decide_eq_false e10
   refine ret1 (fn := Tryz.f108) (.bool false) rfl (by rfl) ?_
   have hc : withinF n c np = (false) := by unfold withinF; first | (simp [*]; done) | (simp [*]; omega)
   rw [hc]
   exact ⟨rfl, H⟩
  ·skip
   have h10 := of_decide_eq_true e10
   refine BB.k ?_
   refine ret1 (fn := Tryz.f108) (.bool (decide (n < np))) rfl (by rfl) ?_
   have hc : withinF n c np = (decide (n < np)) := by unfold withinF; first | (simp [*]; done) | (simp [*]; omega)
   rw [hc]
   exact ⟨rfl, H⟩
theorem r_row04 {w : World} {F : List Piece} {k : Int} (h1 : 1 ≤ k) (h9 : k ≤ 9) (H : SL w F) : Calls Tryz.prog 107 #[.int .i64 k] w fun o w' => ∃ c0 c1 : UInt8, o = .returned (.string { data := #[c0, c1] }) ∧ ((c0.toNat : Int), (c1.toNat : Int)) = rowF k ∧ SL w' F := by
 have hk : k = 1 ∨ k = 2 ∨ k = 3 ∨ k = 4 ∨ k = 5 ∨ k = 6 ∨ k = 7 ∨ k = 8 ∨ k = 9 := by omega
 rcases hk with rfl | rfl | rfl | rfl | rfl | rfl | rfl | rfl | rfl

 ·skip
  refine calls_den (args := [_]) Tryz.func107 rfl (Nat.le_of_ble_eq_true (by kernel_rfl)) (by kernel_rfl) ?_
  refine ⟨?_⟩
  refine ⟨?_⟩
  refine Mn.new (fun b => .slice (some ⟨b, 0, none⟩) 10 10) #[.string { data := #[] }, .string { data := #[112, 46] }, .string { data := #[99, 109] }, .string { data := #[99, 118] }, .string { data := #[99, 46] }, .string { data := #[99, 46] }, .string { data := #[46, 46] }, .string { data := #[120, 46] }, .string { data := #[120, 46] }, .string { data := #[46, 46] }] 9 (by kernel_rfl) H fun b3 w H => ?_
  refine Ix.at0 1 1 (by kernel_rfl) rfl (by decide) ?_
  refine H.ldi 0 rfl (v := .string { data := #[112, 46] }) rfl ?_
  refine ret1 (fn := Tryz.f107) (.string { data := #[112, 46] }) rfl (by rfl) ?_
  exact ⟨_, _, rfl, by decide, H.tl⟩
 ·skip
  refine calls_den (args := [_]) Tryz.func107 rfl (Nat.le_of_ble_eq_true (by kernel_rfl)) (by kernel_rfl) ?_
  refine ⟨?_⟩
  refine ⟨?_⟩
  refine Mn.new (fun b => .slice (some ⟨b, 0, none⟩) 10 10) #[.string { data := #[] }, .string { data := #[112, 46] }, .string { data := #[99, 109] }, .string { data := #[99, 118] }, .string { data := #[99, 46] }, .string { data := #[99, 46] }, .string { data := #[46, 46] }, .string { data := #[120, 46] }, .string { data := #[120, 46] }, .string { data := #[46, 46] }] 9 (by kernel_rfl) H fun b3 w H => ?_
  refine Ix.at0 2 1 (by kernel_rfl) rfl (by decide) ?_
  refine H.ldi 0 rfl (v := .string { data := #[99, 109] }) rfl ?_
  refine ret1 (fn := Tryz.f107) (.string { data := #[99, 109] }) rfl (by rfl) ?_
  exact ⟨_, _, rfl, by decide, H.tl⟩
 ·skip
  refine calls_den (args := [_]) Tryz.func107 rfl (Nat.le_of_ble_eq_true (by kernel_rfl)) (by kernel_rfl) ?_
  refine ⟨?_⟩
  refine ⟨?_⟩
  refine Mn.new (fun b => .slice (some ⟨b, 0, none⟩) 10 10) #[.string { data := #[] }, .string { data := #[112, 46] }, .string { data := #[99, 109] }, .string { data := #[99, 118] }, .string { data := #[99, 46] }, .string { data := #[99, 46] }, .string { data := #[46, 46] }, .string { data := #[120, 46] }, .string { data := #[120, 46] }, .string { data := #[46, 46] }] 9 (by kernel_rfl) H fun b3 w H => ?_
  refine Ix.at0 3 1 (by kernel_rfl) rfl (by decide) ?_
  refine H.ldi 0 rfl (v := .string { data := #[99, 118] }) rfl ?_
  refine ret1 (fn := Tryz.f107) (.string { data := #[99, 118] }) rfl (by rfl) ?_
  exact ⟨_, _, rfl, by decide, H.tl⟩
 ·skip
  refine calls_den (args := [_]) Tryz.func107 rfl (Nat.le_of_ble_eq_true (by kernel_rfl)) (by kernel_rfl) ?_
  refine ⟨?_⟩
  refine ⟨?_⟩
  refine Mn.new (fun b => .slice (some ⟨b, 0, none⟩) 10 10) #[.string { data := #[] }, .string { data := #[112, 46] }, .string { data := #[99, 109] }, .string { data := #[99, 118] }, .string { data := #[99, 46] }, .string { data := #[99, 46] }, .string { data := #[46, 46] }, .string { data := #[120, 46] }, .string { data := #[120, 46] }, .string { data := #[46, 46] }] 9 (by kernel_rfl) H fun b3 w H => ?_
  refine Ix.at0 4 1 (by kernel_rfl) rfl (by decide) ?_
  refine H.ldi 0 rfl (v := .string { data := #[99, 46] }) rfl ?_
  refine ret1 (fn := Tryz.f107) (.string { data := #[99, 46] }) rfl (by rfl) ?_
  exact ⟨_, _, rfl, by decide, H.tl⟩
 ·skip
  refine calls_den (args := [_]) Tryz.func107 rfl (Nat.le_of_ble_eq_true (by kernel_rfl)) (by kernel_rfl) ?_
  refine ⟨?_⟩
  refine ⟨?_⟩
  refine Mn.new (fun b => .slice (some ⟨b, 0, none⟩) 10 10) #[.string { data := #[] }, .string { data := #[112, 46] }, .string { data := #[99, 109] }, .string { data := #[99, 118] }, .string { data := #[99, 46] }, .string { data := #[99, 46] }, .string { data := #[46, 46] }, .string { data := #[120, 46] }, .string { data := #[120, 46] }, .string { data := #[46, 46] }] 9 (by kernel_rfl) H fun b3 w H => ?_
  refine Ix.at0 5 1 (by kernel_rfl) rfl (by decide) ?_
  refine H.ldi 0 rfl (v := .string { data := #[99, 46] }) rfl ?_
  refine ret1 (fn := Tryz.f107) (.string { data := #[99, 46] }) rfl (by rfl) ?_
  exact ⟨_, _, rfl, by decide, H.tl⟩
 ·skip
  refine calls_den (args := [_]) Tryz.func107 rfl (Nat.le_of_ble_eq_true (by kernel_rfl)) (by kernel_rfl) ?_
  refine ⟨?_⟩
  refine ⟨?_⟩
  refine Mn.new (fun b => .slice (some ⟨b, 0, none⟩) 10 10) #[.string { data := #[] }, .string { data := #[112, 46] }, .string { data := #[99, 109] }, .string { data := #[99, 118] }, .string { data := #[99, 46] }, .string { data := #[99, 46] }, .string { data := #[46, 46] }, .string { data := #[120, 46] }, .string { data := #[120, 46] }, .string { data := #[46, 46] }] 9 (by kernel_rfl) H fun b3 w H => ?_
  refine Ix.at0 6 1 (by kernel_rfl) rfl (by decide) ?_
  refine H.ldi 0 rfl (v := .string { data := #[46, 46] }) rfl ?_
  refine ret1 (fn := Tryz.f107) (.string { data := #[46, 46] }) rfl (by rfl) ?_
  exact ⟨_, _, rfl, by decide, H.tl⟩
 ·skip
  refine calls_den (args := [_]) Tryz.func107 rfl (Nat.le_of_ble_eq_true (by kernel_rfl)) (by kernel_rfl) ?_
  refine ⟨?_⟩
  refine ⟨?_⟩
  refine Mn.new (fun b => .slice (some ⟨b, 0, none⟩) 10 10) #[.string { data := #[] }, .string { data := #[112, 46] }, .string { data := #[99, 109] }, .string { data := #[99, 118] }, .string { data := #[99, 46] }, .string { data := #[99, 46] }, .string { data := #[46, 46] }, .string { data := #[120, 46] }, .string { data := #[120, 46] }, .string { data := #[46, 46] }] 9 (by kernel_rfl) H fun b3 w H => ?_
  refine Ix.at0 7 1 (by kernel_rfl) rfl (by decide) ?_
  refine H.ldi 0 rfl (v := .string { data := #[120, 46] }) rfl ?_
  refine ret1 (fn := Tryz.f107) (.string { data := #[120, 46] }) rfl (by rfl) ?_
  exact ⟨_, _, rfl, by decide, H.tl⟩
 ·skip
  refine calls_den (args := [_]) Tryz.func107 rfl (Nat.le_of_ble_eq_true (by kernel_rfl)) (by kernel_rfl) ?_
  refine ⟨?_⟩
  refine ⟨?_⟩
  refine Mn.new (fun b => .slice (some ⟨b, 0, none⟩) 10 10) #[.string { data := #[] }, .string { data := #[112, 46] }, .string { data := #[99, 109] }, .string { data := #[99, 118] }, .string { data := #[99, 46] }, .string { data := #[99, 46] }, .string { data := #[46, 46] }, .string { data := #[120, 46] }, .string { data := #[120, 46] }, .string { data := #[46, 46] }] 9 (by kernel_rfl) H fun b3 w H => ?_
  refine Ix.at0 8 1 (by kernel_rfl) rfl (by decide) ?_
  refine H.ldi 0 rfl (v := .string { data := #[120, 46] }) rfl ?_
  refine ret1 (fn := Tryz.f107) (.string { data := #[120, 46] }) rfl (by rfl) ?_
  exact ⟨_, _, rfl, by decide, H.tl⟩
 ·skip
  refine calls_den (args := [_]) Tryz.func107 rfl (Nat.le_of_ble_eq_true (by kernel_rfl)) (by kernel_rfl) ?_
  refine ⟨?_⟩
  refine ⟨?_⟩
  refine Mn.new (fun b => .slice (some ⟨b, 0, none⟩) 10 10) #[.string { data := #[] }, .string { data := #[112, 46] }, .string { data := #[99, 109] }, .string { data := #[99, 118] }, .string { data := #[99, 46] }, .string { data := #[99, 46] }, .string { data := #[46, 46] }, .string { data := #[120, 46] }, .string { data := #[120, 46] }, .string { data := #[46, 46] }] 9 (by kernel_rfl) H fun b3 w H => ?_
  refine Ix.at0 9 1 (by kernel_rfl) rfl (by decide) ?_
  refine H.ldi 0 rfl (v := .string { data := #[46, 46] }) rfl ?_
  refine ret1 (fn := Tryz.f107) (.string { data := #[46, 46] }) rfl (by rfl) ?_
  exact ⟨_, _, rfl, by decide, H.tl⟩
section
variable {np k a b : Int} {cs : List CaseM} {df : Bool}
theorem opE_w (h1 : ¬ (np < 1 ∨ 8 < np ∨ k < 1 ∨ 9 < k)) (h2 : ¬ 4 < cs.length) (h3 : ¬ (withinF a (rowF k).1 np = true ∧ withinF b (rowF k).2 np = true)) : opE np ⟨k, a, b, cs, df⟩ = 4 := by
 unfold opE
 rw [if_neg h1, if_neg h2, if_pos h3]
theorem opE_s (h1 : ¬ (np < 1 ∨ 8 < np ∨ k < 1 ∨ 9 < k)) (h2 : ¬ 4 < cs.length) (h4 : k ≠ 6 ∧ (cs.length ≠ 0 ∨ df = true)) : opE np ⟨k, a, b, cs, df⟩ = 4 := by
 unfold opE
 dsimp only
 rw [if_neg h1, if_neg h2]
 by_cases h3 : withinF a (rowF k).1 np = true ∧ withinF b (rowF k).2 np = true
 ·rw [if_neg (fun h => h h3), if_pos h4]
 ·rw [if_pos h3]
theorem opE_c (h1 : ¬ (np < 1 ∨ 8 < np ∨ k < 1 ∨ 9 < k)) (h2 : ¬ 4 < cs.length) (h5 : cs.all caseR = false) : opE np ⟨k, a, b, cs, df⟩ = 4 := by
 unfold opE
 dsimp only
 rw [if_neg h1, if_neg h2]
 by_cases h3 : withinF a (rowF k).1 np = true ∧ withinF b (rowF k).2 np = true
 ·rw [if_neg (fun h => h h3)]
  by_cases h4 : k ≠ 6 ∧ (cs.length ≠ 0 ∨ df = true)
  ·rw [if_pos h4]
  ·rw [if_neg h4, if_neg (by simp [h5])]
 ·rw [if_pos h3]
theorem opE_0 (h1 : ¬ (np < 1 ∨ 8 < np ∨ k < 1 ∨ 9 < k)) (h2 : ¬ 4 < cs.length) (h3 : withinF a (rowF k).1 np = true ∧ withinF b (rowF k).2 np = true) (h4 : ¬ (k ≠ 6 ∧ (cs.length ≠ 0 ∨ df = true))) (h5 : cs.all caseR = true) : opE np ⟨k, a, b, cs, df⟩ = 0 := by
 unfold opE
 rw [if_neg h1, if_neg h2, if_neg (fun h => h h3), if_neg h4, if_pos h5]
end
set_option maxHeartbeats 4000000 in
theorem r_check04 {w : World} {F : List Piece} {A : Piece} {ca : Option Addr} {cc : Nat} {ok oa ob np : Int} {cs : List CaseM} {df : Bool} (hA : Reader A 3 ca cs.length (cs.flatMap CaseM.cells)) (H : SL w (A :: F)) :
  Calls Tryz.prog 62 #[.agg #[.int .i64 ok, .int .i64 oa, .int .i64 ob, .slice ca cs.length cc, .bool df], .int .i64 np] w fun o w' => o = .returned (.int .i64 (opE np ⟨ok, oa, ob, cs, df⟩)) ∧ SL w' (A :: F) := by
 refine calls_den (args := [_, _]) Tryz.func62 rfl (Nat.le_of_ble_eq_true (by kernel_rfl)) (by kernel_rfl) ?_
 refine ⟨?_⟩
 refine Nw.as #[.int .i64 ok, .int .i64 oa, .int .i64 ob, .slice ca cs.length cc, .bool df] 44 rfl H fun b2 w H => ?_
 refine ⟨?_⟩
 refine BB.vr fun q1 e1 => ?_
 cases q1
 ·skip
  have h1 := of_decide_eq_false e1
  refine BB.vr fun q2 e2 => ?_
  cases q2
  ·skip
   have h2 := of_decide_eq_false e2
   refine H.ldi 0 rfl (v := .int .i64 ok) rfl ?_
   refine BB.vr fun q3 e3 => ?_
   cases q3
   ·skip
    have h3 := of_decide_eq_false e3
    refine H.ldi 0 rfl (v := .int .i64 ok) rfl ?_
    refine BB.vr fun q4 e4 => ?_
    cases q4
    ·skip
     have h4 := of_decide_eq_false e4
     refine Cn.no ?_
     refine ⟨?_⟩
     refine H.ldi 0 rfl (v := .slice ca cs.length cc) rfl ?_
     refine BB.vr fun q5 e5 => ?_
     cases q5
     ·skip
      have h5 := of_decide_eq_false e5
      refine Cn.no ?_
      refine ⟨?_⟩
      refine H.ldi 0 rfl (v := .int .i64 ok) rfl ?_
      refine Cl.by (by kernel_rfl) (r_row04 (by omega) (by omega) H) ?_
      rintro _ w ⟨c0, c1, rfl, hrow, H⟩
      refine ⟨_, rfl, ?_⟩
      refine ⟨?_⟩
      refine Drw.oft (.calm 0 (.calm 1 (.calm 2 (.calm 3 (.calm 4 (.act 5 true (.pure 6 (.pure 7 (.pure 8 (.pure 10 (.pure 11 (.pure 12 (.act 9 true (.act 13 true (.pure 14 (.pure 15 .nil)))))))))))))))) (by kernel_rfl) mixed (fun w => SL w _) H.drew ?_
      replace H := H.drew
      refine LdC.i 0 rfl (v := .int .i64 oa) rfl ?_
      refine MnC.pure (.int .u8 (c0.toNat : Int)) (fun _ => by kernel_rfl) ?_
      refine Cl.sl (by kernel_rfl) (r_within04 oa (c0.toNat : Int) np H) fun w H => ?_
      refine BB.vr fun q6 e6 => ?_
      refine ⟨.inl rfl, ?_⟩
      cases q6
      ·skip
       refine BB.yes rfl ?_
       refine Cn.yes ?_
       refine ⟨?_⟩
       refine ret1 (fn := Tryz.f62) (.int .i64 4) rfl (by rfl) ?_
       have hcc : opE np ⟨ok, oa, ob, cs, df⟩ = 4 := by exact opE_w (by omega) (by omega) (by rw [← hrow]; simp [*])
       rw [hcc]
       exact ⟨rfl, H.pick [1] 2 (by decide)⟩
      ·skip
       refine BB.no rfl ?_
       refine MnC.pure (.int .u8 (c1.toNat : Int)) (fun _ => by kernel_rfl) ?_
       refine H.ldi 0 rfl (v := .int .i64 ob) rfl ?_
       refine ⟨.inl rfl, ?_⟩
       refine Cl.sl (by kernel_rfl) (r_within04 ob (c1.toNat : Int) np H) fun w H => ?_
       refine BB.vr fun q7 e7 => ?_
       refine ⟨.inl rfl, ?_⟩
       cases q7
       ·skip
        refine BB.yes rfl ?_
        refine Cn.yes ?_
        refine ⟨?_⟩
        refine ret1 (fn := Tryz.f62) (.int .i64 4) rfl (by rfl) ?_
        have hcc : opE np ⟨ok, oa, ob, cs, df⟩ = 4 := by exact opE_w (by omega) (by omega) (by rw [← hrow]; simp [*])
        rw [hcc]
        exact ⟨rfl, H.pick [1] 2 (by decide)⟩
       ·skip
        refine BB.no rfl ?_
        refine Cn.no ?_
        refine ⟨?_⟩
        refine H.ldi 0 rfl (v := .int .i64 ok) rfl ?_
        refine BB.vr fun q8 e8 => ?_
        cases q8
        ·skip
         have h8 := bne_eq_false_iff_eq.1 e8
         refine Cn.no ?_
         refine ⟨?_⟩
         refine H.ldi 0 rfl (v := .slice ca cs.length cc) rfl ?_
         refine ⟨?_⟩
         refine den.loop (ι := Nat) [(4, 4), (7, 7), (63, 91)] (by kernel_rfl) (fun j => [(63, .int .i64 ↑j)]) (fun j w => (j ≤ cs.length ∧ (cs.take j).all caseR = true) ∧ SL w (row b2 #[.int .i64 ok, .int .i64 oa, .int .i64 ob, .slice ca cs.length cc, .bool df] 44 :: A :: F)) (fun j => cs.length - j) 0 ⟨rfl, trivial⟩ ⟨⟨Nat.zero_le _, rfl⟩, (H)⟩ ?_
         rintro j s w ⟨hc, H⟩
         have hob := Nat.lt_or_ge j cs.length
         rcases hob with hj | hj
         ·skip
          have hob : ∃ z, cs[j]? = some z := ⟨_, List.getElem?_eq_getElem hj⟩
          obtain ⟨cz, hcz⟩ := hob
          have hob := H.addrR 1 rfl hA (by omega)
          obtain ⟨cb, co, rfl⟩ := hob
          refine ⟨?_⟩
          refine BB.yes (decide_eq_true (by omega)) ?_
          refine Cn.yes ?_
          refine ⟨?_⟩
          refine ⟨?_⟩
          refine Ix.at j 3 (by kernel_rfl) (rfl) (hj) ?_
          refine H.ldR 1 rfl hA (by omega) (q := j * 3 + 0) rfl (v := .bool cz.send) ((case_cell hcz 0 (by decide)).trans rfl) ?_
          refine H.ldR 1 rfl hA (by omega) (q := j * 3 + 1) rfl (v := .int .i64 cz.chan) ((case_cell hcz 1 (by decide)).trans rfl) ?_
          refine H.ldR 1 rfl hA (by omega) (q := j * 3 + 2) rfl (v := .int .i64 cz.value) ((case_cell hcz 2 (by decide)).trans rfl) ?_
          refine Nw.as #[.bool false, .int .i64 0, .int .i64 0] 98 rfl H fun b7 w H => ?_
          refine H.st0 (cs' := #[.bool cz.send, .int .i64 0, .int .i64 0]) rfl rfl rfl fun w H => ?_
          refine H.st0 (cs' := #[.bool cz.send, .int .i64 cz.chan, .int .i64 0]) rfl rfl rfl fun w H => ?_
          refine H.st0 (cs' := #[.bool cz.send, .int .i64 cz.chan, .int .i64 cz.value]) rfl rfl rfl fun w H => ?_
          refine ⟨?_⟩
          refine H.ldi 0 rfl (v := .int .i64 cz.chan) rfl ?_
          refine Cl.sl (by kernel_rfl) (r_within04 cz.chan 99 0 H) fun w H => ?_
          refine BB.vr fun q9 e9 => ?_
          cases q9
          ·skip
           refine BB.yes rfl ?_
           refine Cn.yes ?_
           refine ⟨?_⟩
           refine ret1 (fn := Tryz.f62) (.int .i64 4) rfl (by rfl) ?_
           have hcc : opE np ⟨ok, oa, ob, cs, df⟩ = 4 := by exact opE_c (by omega) (by omega) (all_no hcz (by unfold caseR; first | (simp [*]; done) | (simp_all; done)))
           rw [hcc]
           exact ⟨rfl, H.pick [2] 3 (by decide)⟩
          ·skip
           refine BB.no rfl ?_
           refine H.ldi 0 rfl (v := .bool cz.send) rfl ?_
           refine BB.vr fun q10 e10 => ?_
           cases q10
           ·skip
            refine H.ldi 0 rfl (v := .bool cz.send) rfl ?_
            refine BB.vr fun q11 e11 => ?_
            cases q11
            ·skip
             refine BB.yes rfl ?_
             refine H.ldi 0 rfl (v := .int .i64 cz.value) rfl ?_
             refine BB.vr fun q12 e12 => ?_
             cases q12
             ·skip
              have h12 := bne_eq_false_iff_eq.1 e12
              refine Cn.no ?_
              refine ⟨?_⟩
              refine IW.by (wrap_id (n := ↑j + 1) (by omega) (by omega)) ?_
              have hcase : caseR cz = true := by unfold caseR; first | (simp [*]; done) | (simp_all; done)
              exact ⟨j + 1, ⟨rfl, trivial⟩, ⟨⟨by omega, all_step hc.2 hcz hcase⟩, H.pick [1, 2] 3 (by decide)⟩, (show cs.length - (j + 1) < cs.length - j by omega)⟩
             ·skip
              have h12 := bne_iff_ne.1 e12
              refine Cn.yes ?_
              refine ⟨?_⟩
              refine ret1 (fn := Tryz.f62) (.int .i64 4) rfl (by rfl) ?_
              have hcc : opE np ⟨ok, oa, ob, cs, df⟩ = 4 := by exact opE_c (by omega) (by omega) (all_no hcz (by unfold caseR; first | (simp [*]; done) | (simp_all; done)))
              rw [hcc]
              exact ⟨rfl, H.pick [2] 3 (by decide)⟩
            ·skip
             refine BB.no rfl ?_
             refine Cn.no ?_
             refine ⟨?_⟩
             refine IW.by (wrap_id (n := ↑j + 1) (by omega) (by omega)) ?_
             have hcase : caseR cz = true := by unfold caseR; first | (simp [*]; done) | (simp_all; done)
             exact ⟨j + 1, ⟨rfl, trivial⟩, ⟨⟨by omega, all_step hc.2 hcz hcase⟩, H.pick [1, 2] 3 (by decide)⟩, (show cs.length - (j + 1) < cs.length - j by omega)⟩
           ·skip
            refine H.ldi 0 rfl (v := .int .i64 cz.value) rfl ?_
            refine Cl.sl (by kernel_rfl) (r_within04 cz.value 118 0 H) fun w H => ?_
            refine BB.vr fun q13 e13 => ?_
            cases q13
            ·skip
             refine BB.yes rfl ?_
             refine Cn.yes ?_
             refine ⟨?_⟩
             refine ret1 (fn := Tryz.f62) (.int .i64 4) rfl (by rfl) ?_
             have hcc : opE np ⟨ok, oa, ob, cs, df⟩ = 4 := by exact opE_c (by omega) (by omega) (all_no hcz (by unfold caseR; first | (simp [*]; done) | (simp_all; done)))
             rw [hcc]
             exact ⟨rfl, H.pick [2] 3 (by decide)⟩
            ·skip
             refine BB.no rfl ?_
             refine H.ldi 0 rfl (v := .bool cz.send) rfl ?_
             refine BB.vr fun q14 e14 => ?_
             cases q14
             ·skip
              refine BB.yes rfl ?_
              refine H.ldi 0 rfl (v := .int .i64 cz.value) rfl ?_
              refine BB.vr fun q15 e15 => ?_
              cases q15
              ·skip
               have h15 := bne_eq_false_iff_eq.1 e15
               refine Cn.no ?_
               refine ⟨?_⟩
               refine IW.by (wrap_id (n := ↑j + 1) (by omega) (by omega)) ?_
               have hcase : caseR cz = true := by unfold caseR; first | (simp [*]; done) | (simp_all; done)
               exact ⟨j + 1, ⟨rfl, trivial⟩, ⟨⟨by omega, all_step hc.2 hcz hcase⟩, H.pick [1, 2] 3 (by decide)⟩, (show cs.length - (j + 1) < cs.length - j by omega)⟩
              ·skip
               have h15 := bne_iff_ne.1 e15
               refine Cn.yes ?_
               refine ⟨?_⟩
               refine ret1 (fn := Tryz.f62) (.int .i64 4) rfl (by rfl) ?_
               have hcc : opE np ⟨ok, oa, ob, cs, df⟩ = 4 := by exact opE_c (by omega) (by omega) (all_no hcz (by unfold caseR; first | (simp [*]; done) | (simp_all; done)))
               rw [hcc]
               exact ⟨rfl, H.pick [2] 3 (by decide)⟩
             ·skip
              refine BB.no rfl ?_
              refine Cn.no ?_
              refine ⟨?_⟩
              refine IW.by (wrap_id (n := ↑j + 1) (by omega) (by omega)) ?_
              have hcase : caseR cz = true := by unfold caseR; first | (simp [*]; done) | (simp_all; done)
              exact ⟨j + 1, ⟨rfl, trivial⟩, ⟨⟨by omega, all_step hc.2 hcz hcase⟩, H.pick [1, 2] 3 (by decide)⟩, (show cs.length - (j + 1) < cs.length - j by omega)⟩
         ·skip
          have hob : j = cs.length := by omega
          obtain rfl := hob
          rw [List.take_length] at hc
          refine ⟨?_⟩
          refine BB.no (decide_eq_false (by omega)) ?_
          refine Cn.no ?_
          refine ⟨?_⟩
          refine ret1 (fn := Tryz.f62) (.int .i64 0) rfl (by rfl) ?_
          have hcc : opE np ⟨ok, oa, ob, cs, df⟩ = 0 := by exact opE_0 (by omega) (by omega) (by rw [← hrow]; simp [*]) (by rintro ⟨ha, hb | hb⟩ <;> first | exact absurd rfl ha | omega | cases hb) hc.2
          rw [hcc]
          exact ⟨rfl, H.pick [1] 2 (by decide)⟩
        ·skip
         have h8 := bne_iff_ne.1 e8
         refine H.ldi 0 rfl (v := .slice ca cs.length cc) rfl ?_
         refine BB.vr fun q16 e16 => ?_
         cases q16
         ·skip
          have h16 := bne_eq_false_iff_eq.1 e16
          refine H.ldi 0 rfl (v := .bool df) rfl ?_
          refine BB.k ?_
          cases df
          ·skip
           refine Cn.no ?_
           refine ⟨?_⟩
           refine H.ldi 0 rfl (v := .slice ca cs.length cc) rfl ?_
           refine ⟨?_⟩
           refine den.loop (ι := Nat) [(4, 4), (7, 7), (63, 91)] (by kernel_rfl) (fun j => [(63, .int .i64 ↑j)]) (fun j w => (j ≤ cs.length ∧ (cs.take j).all caseR = true) ∧ SL w (row b2 #[.int .i64 ok, .int .i64 oa, .int .i64 ob, .slice ca cs.length cc, .bool false] 44 :: A :: F)) (fun j => cs.length - j) 0 ⟨rfl, trivial⟩ ⟨⟨Nat.zero_le _, rfl⟩, (H)⟩ ?_
           rintro j s w ⟨hc, H⟩
           have hob := Nat.lt_or_ge j cs.length
           rcases hob with hj | hj
           ·skip
            have hob : ∃ z, cs[j]? = some z := ⟨_, List.getElem?_eq_getElem hj⟩
            obtain ⟨cz, hcz⟩ := hob
            have hob := H.addrR 1 rfl hA (by omega)
            obtain ⟨cb, co, rfl⟩ := hob
            refine ⟨?_⟩
            refine BB.yes (decide_eq_true (by omega)) ?_
            refine Cn.yes ?_
            refine ⟨?_⟩
            refine ⟨?_⟩
            refine Ix.at j 3 (by kernel_rfl) (rfl) (hj) ?_
            refine H.ldR 1 rfl hA (by omega) (q := j * 3 + 0) rfl (v := .bool cz.send) ((case_cell hcz 0 (by decide)).trans rfl) ?_
            refine H.ldR 1 rfl hA (by omega) (q := j * 3 + 1) rfl (v := .int .i64 cz.chan) ((case_cell hcz 1 (by decide)).trans rfl) ?_
            refine H.ldR 1 rfl hA (by omega) (q := j * 3 + 2) rfl (v := .int .i64 cz.value) ((case_cell hcz 2 (by decide)).trans rfl) ?_
            refine Nw.as #[.bool false, .int .i64 0, .int .i64 0] 98 rfl H fun b7 w H => ?_
            refine H.st0 (cs' := #[.bool cz.send, .int .i64 0, .int .i64 0]) rfl rfl rfl fun w H => ?_
            refine H.st0 (cs' := #[.bool cz.send, .int .i64 cz.chan, .int .i64 0]) rfl rfl rfl fun w H => ?_
            refine H.st0 (cs' := #[.bool cz.send, .int .i64 cz.chan, .int .i64 cz.value]) rfl rfl rfl fun w H => ?_
            refine ⟨?_⟩
            refine H.ldi 0 rfl (v := .int .i64 cz.chan) rfl ?_
            refine Cl.sl (by kernel_rfl) (r_within04 cz.chan 99 0 H) fun w H => ?_
            refine BB.vr fun q17 e17 => ?_
            cases q17
            ·skip
             refine BB.yes rfl ?_
             refine Cn.yes ?_
             refine ⟨?_⟩
             refine ret1 (fn := Tryz.f62) (.int .i64 4) rfl (by rfl) ?_
             have hcc : opE np ⟨ok, oa, ob, cs, false⟩ = 4 := by exact opE_c (by omega) (by omega) (all_no hcz (by unfold caseR; first | (simp [*]; done) | (simp_all; done)))
             rw [hcc]
             exact ⟨rfl, H.pick [2] 3 (by decide)⟩
            ·skip
             refine BB.no rfl ?_
             refine H.ldi 0 rfl (v := .bool cz.send) rfl ?_
             refine BB.vr fun q18 e18 => ?_
             cases q18
             ·skip
              refine H.ldi 0 rfl (v := .bool cz.send) rfl ?_
              refine BB.vr fun q19 e19 => ?_
              cases q19
              ·skip
               refine BB.yes rfl ?_
               refine H.ldi 0 rfl (v := .int .i64 cz.value) rfl ?_
               refine BB.vr fun q20 e20 => ?_
               cases q20
               ·skip
                have h20 := bne_eq_false_iff_eq.1 e20
                refine Cn.no ?_
                refine ⟨?_⟩
                refine IW.by (wrap_id (n := ↑j + 1) (by omega) (by omega)) ?_
                have hcase : caseR cz = true := by unfold caseR; first | (simp [*]; done) | (simp_all; done)
                exact ⟨j + 1, ⟨rfl, trivial⟩, ⟨⟨by omega, all_step hc.2 hcz hcase⟩, H.pick [1, 2] 3 (by decide)⟩, (show cs.length - (j + 1) < cs.length - j by omega)⟩
               ·skip
                have h20 := bne_iff_ne.1 e20
                refine Cn.yes ?_
                refine ⟨?_⟩
                refine ret1 (fn := Tryz.f62) (.int .i64 4) rfl (by rfl) ?_
                have hcc : opE np ⟨ok, oa, ob, cs, false⟩ = 4 := by exact opE_c (by omega) (by omega) (all_no hcz (by unfold caseR; first | (simp [*]; done) | (simp_all; done)))
                rw [hcc]
                exact ⟨rfl, H.pick [2] 3 (by decide)⟩
              ·skip
               refine BB.no rfl ?_
               refine Cn.no ?_
               refine ⟨?_⟩
               refine IW.by (wrap_id (n := ↑j + 1) (by omega) (by omega)) ?_
               have hcase : caseR cz = true := by unfold caseR; first | (simp [*]; done) | (simp_all; done)
               exact ⟨j + 1, ⟨rfl, trivial⟩, ⟨⟨by omega, all_step hc.2 hcz hcase⟩, H.pick [1, 2] 3 (by decide)⟩, (show cs.length - (j + 1) < cs.length - j by omega)⟩
             ·skip
              refine H.ldi 0 rfl (v := .int .i64 cz.value) rfl ?_
              refine Cl.sl (by kernel_rfl) (r_within04 cz.value 118 0 H) fun w H => ?_
              refine BB.vr fun q21 e21 => ?_
              cases q21
              ·skip
               refine BB.yes rfl ?_
               refine Cn.yes ?_
               refine ⟨?_⟩
               refine ret1 (fn := Tryz.f62) (.int .i64 4) rfl (by rfl) ?_
               have hcc : opE np ⟨ok, oa, ob, cs, false⟩ = 4 := by exact opE_c (by omega) (by omega) (all_no hcz (by unfold caseR; first | (simp [*]; done) | (simp_all; done)))
               rw [hcc]
               exact ⟨rfl, H.pick [2] 3 (by decide)⟩
              ·skip
               refine BB.no rfl ?_
               refine H.ldi 0 rfl (v := .bool cz.send) rfl ?_
               refine BB.vr fun q22 e22 => ?_
               cases q22
               ·skip
                refine BB.yes rfl ?_
                refine H.ldi 0 rfl (v := .int .i64 cz.value) rfl ?_
                refine BB.vr fun q23 e23 => ?_
                cases q23
                ·skip
                 have h23 := bne_eq_false_iff_eq.1 e23
                 refine Cn.no ?_
                 refine ⟨?_⟩
                 refine IW.by (wrap_id (n := ↑j + 1) (by omega) (by omega)) ?_
                 have hcase : caseR cz = true := by unfold caseR; first | (simp [*]; done) | (simp_all; done)
                 exact ⟨j + 1, ⟨rfl, trivial⟩, ⟨⟨by omega, all_step hc.2 hcz hcase⟩, H.pick [1, 2] 3 (by decide)⟩, (show cs.length - (j + 1) < cs.length - j by omega)⟩
                ·skip
                 have h23 := bne_iff_ne.1 e23
                 refine Cn.yes ?_
                 refine ⟨?_⟩
                 refine ret1 (fn := Tryz.f62) (.int .i64 4) rfl (by rfl) ?_
                 have hcc : opE np ⟨ok, oa, ob, cs, false⟩ = 4 := by exact opE_c (by omega) (by omega) (all_no hcz (by unfold caseR; first | (simp [*]; done) | (simp_all; done)))
                 rw [hcc]
                 exact ⟨rfl, H.pick [2] 3 (by decide)⟩
               ·skip
                refine BB.no rfl ?_
                refine Cn.no ?_
                refine ⟨?_⟩
                refine IW.by (wrap_id (n := ↑j + 1) (by omega) (by omega)) ?_
                have hcase : caseR cz = true := by unfold caseR; first | (simp [*]; done) | (simp_all; done)
                exact ⟨j + 1, ⟨rfl, trivial⟩, ⟨⟨by omega, all_step hc.2 hcz hcase⟩, H.pick [1, 2] 3 (by decide)⟩, (show cs.length - (j + 1) < cs.length - j by omega)⟩
           ·skip
            have hob : j = cs.length := by omega
            obtain rfl := hob
            rw [List.take_length] at hc
            refine ⟨?_⟩
            refine BB.no (decide_eq_false (by omega)) ?_
            refine Cn.no ?_
            refine ⟨?_⟩
            refine ret1 (fn := Tryz.f62) (.int .i64 0) rfl (by rfl) ?_
            have hcc : opE np ⟨ok, oa, ob, cs, false⟩ = 0 := by exact opE_0 (by omega) (by omega) (by rw [← hrow]; simp [*]) (by rintro ⟨ha, hb | hb⟩ <;> first | exact absurd rfl ha | omega | cases hb) hc.2
            rw [hcc]
            exact ⟨rfl, H.pick [1] 2 (by decide)⟩
          ·skip
           refine Cn.yes ?_
           refine ⟨?_⟩
           refine ret1 (fn := Tryz.f62) (.int .i64 4) rfl (by rfl) ?_
           have hcc : opE np ⟨ok, oa, ob, cs, true⟩ = 4 := by exact opE_s (by omega) (by omega) (by refine ⟨by assumption, ?_⟩; first | exact .inr rfl | exact .inl (by omega))
           rw [hcc]
           exact ⟨rfl, H.pick [1] 2 (by decide)⟩
         ·skip
          have h16 := bne_iff_ne.1 e16
          refine Cn.yes ?_
          refine ⟨?_⟩
          refine ret1 (fn := Tryz.f62) (.int .i64 4) rfl (by rfl) ?_
          have hcc : opE np ⟨ok, oa, ob, cs, df⟩ = 4 := by exact opE_s (by omega) (by omega) (by refine ⟨by assumption, ?_⟩; first | exact .inr rfl | exact .inl (by omega))
          rw [hcc]
          exact ⟨rfl, H.pick [1] 2 (by decide)⟩
     ·skip
      have h5 := of_decide_eq_true e5
      refine Cn.yes ?_
      refine ⟨?_⟩
      refine ret1 (fn := Tryz.f62) (.int .i64 2) rfl (by rfl) ?_
      have hcc : opE np ⟨ok, oa, ob, cs, df⟩ = 2 := by unfold opE; rw [if_neg (by dsimp only; omega), if_pos (by dsimp only; omega)]
      rw [hcc]
      exact ⟨rfl, H.pick [1] 2 (by decide)⟩
    ·skip
     have h4 := of_decide_eq_true e4
     refine Cn.yes ?_
     refine ⟨?_⟩
     refine ret1 (fn := Tryz.f62) (.int .i64 1) rfl (by rfl) ?_
     have hcc : opE np ⟨ok, oa, ob, cs, df⟩ = 1 := by unfold opE; rw [if_pos (by dsimp only; omega)]
     rw [hcc]
     exact ⟨rfl, H.pick [1] 2 (by decide)⟩
   ·skip
    have h3 := of_decide_eq_true e3
    refine Cn.yes ?_
    refine ⟨?_⟩
    refine ret1 (fn := Tryz.f62) (.int .i64 1) rfl (by rfl) ?_
    have hcc : opE np ⟨ok, oa, ob, cs, df⟩ = 1 := by unfold opE; rw [if_pos (by dsimp only; omega)]
    rw [hcc]
    exact ⟨rfl, H.pick [1] 2 (by decide)⟩
  ·skip
   have h2 := of_decide_eq_true e2
   refine Cn.yes ?_
   refine ⟨?_⟩
   refine ret1 (fn := Tryz.f62) (.int .i64 1) rfl (by rfl) ?_
   have hcc : opE np ⟨ok, oa, ob, cs, df⟩ = 1 := by unfold opE; rw [if_pos (by dsimp only; omega)]
   rw [hcc]
   exact ⟨rfl, H.pick [1] 2 (by decide)⟩
 ·skip
  have h1 := of_decide_eq_true e1
  refine Cn.yes ?_
  refine ⟨?_⟩
  refine ret1 (fn := Tryz.f62) (.int .i64 1) rfl (by rfl) ?_
  have hcc : opE np ⟨ok, oa, ob, cs, df⟩ = 1 := by unfold opE; rw [if_pos (by dsimp only; omega)]
  rw [hcc]
  exact ⟨rfl, H.pick [1] 2 (by decide)⟩
end Go.Proofs.YtcgajljbahbhdaaGreat
namespace Go.Proofs.YtcgajljbahbhdaaGreat
set_option linter.unusedVariables false
set_option linter.unusedSimpArgs false
open Go.RowKit
set_option maxRecDepth 100000
section
variable {w : World} {L F : List Piece} {A : Piece} {b off : Nat} {X : List ProgX} {p : ProgX} {v : Value} {K : Value → Prop}
theorem SL.ldPv (H : SL w L) (i : Nat) (hi : L[i]? = some A) (hX : ScrA A b off X) (k : Nat) (hk : X[k]? = some p) (hv : .slice p.pa p.ops.length p.pc = v) (h : K v) : Ld w ⟨b, off + k * 1, none⟩ K := H.ldP i hi hX k hk (by rw [hv]; exact h)
end
theorem int_cell {xs : List Int} {j : Nat} {z : Int} (h : xs[j]? = some z) : (ints xs)[j * 1]? = some (.int .i64 z) := by
 rw [Nat.mul_one]
 unfold ints
 rw [List.getElem?_map, h]
 rfl
theorem progs_len {X : List ProgX} : ((progsM X).length : Int) = (X.length : Int) := by unfold progsM; rw [List.length_map]
section
variable {s : ScrM} (h1 : ¬ (s.t < 1 ∨ 256 < s.t ∨ s.m < 1 ∨ 1048576 < s.m)) (h2 : ¬ (8 < s.progs.length ∨ 200 < s.plan.length ∨ 64 < s.draws.length)) (h3 : s.progs.all shortP = true) (h4 : ¬ s.progs.length = 0) (h5 : s.progs.all (progOk s.progs.length) = true) (h6 : s.plan.all planOk = true)
theorem checkE_1 (h : s.t < 1 ∨ 256 < s.t ∨ s.m < 1 ∨ 1048576 < s.m) : checkE s = 1 := by unfold checkE; rw [if_pos h]
include h1
theorem checkE_2 (h : 8 < s.progs.length ∨ 200 < s.plan.length ∨ 64 < s.draws.length) : checkE s = 2 := by unfold checkE; rw [if_neg h1, if_pos h]
include h2
theorem checkE_3 (h : s.progs.all shortP = false) : checkE s = 2 := by unfold checkE; rw [if_neg h1, if_neg h2, if_pos h]
include h3
theorem checkE_4 (h : s.progs.length = 0) : checkE s = 4 := by unfold checkE; rw [if_neg h1, if_neg h2, if_neg (by simp [h3]), if_pos h]
include h4
theorem checkE_5 (h : s.progs.all (progOk s.progs.length) = false) : checkE s = 4 := by unfold checkE; rw [if_neg h1, if_neg h2, if_neg (by simp [h3]), if_neg h4, if_pos h]
include h5
theorem checkE_6 (h : s.plan.all planOk = false) : checkE s = 4 := by unfold checkE; rw [if_neg h1, if_neg h2, if_neg (by simp [h3]), if_neg h4, if_neg (by rw [h5]; exact Bool.noConfusion), if_pos h]
include h6
theorem checkE_7 (h : s.draws.all drawOk = false) : checkE s = 4 := by unfold checkE; rw [if_neg h1, if_neg h2, if_neg (by simp [h3]), if_neg h4, if_neg (by rw [h5]; exact Bool.noConfusion), if_neg (by rw [h6]; exact Bool.noConfusion), if_pos h]
theorem checkE_0 (h : s.draws.all drawOk = true) : checkE s = 0 := by unfold checkE; rw [if_neg h1, if_neg h2, if_neg (by simp [h3]), if_neg h4, if_neg (by rw [h5]; exact Bool.noConfusion), if_neg (by rw [h6]; exact Bool.noConfusion), if_neg (by rw [h]; exact Bool.noConfusion)]
end
set_option maxHeartbeats 4000000 in
theorem r_check05 {w : World} {F : List Piece} {A : Piece} {pa la da : Option Addr} {pc lc dc : Nat} {t m : Int} {X : List ProgX} {pl dr : List Int} (hX : 0 < X.length → ∃ b off, pa = some ⟨b, off, none⟩ ∧ ScrA A b off X) (hL : Reader A 1 la pl.length (ints pl)) (hD : Reader A 1 da dr.length (ints dr)) (H : SL w (A :: F)) :
  Calls Tryz.prog 30 #[.agg #[.int .i64 t, .int .i64 m, .slice pa X.length pc, .slice la pl.length lc, .slice da dr.length dc]] w fun o w' => o = .returned (.int .i64 (checkE ⟨t, m, progsM X, pl, dr⟩)) ∧ SL w' (A :: F) := by
 refine calls_den (args := [_]) Tryz.func30 rfl (Nat.le_of_ble_eq_true (by kernel_rfl)) (by kernel_rfl) ?_
 refine ⟨?_⟩
 refine Nw.as #[.int .i64 t, .int .i64 m, .slice pa X.length pc, .slice la pl.length lc, .slice da dr.length dc] 25 rfl H fun b1 w H => ?_
 refine ⟨?_⟩
 refine H.ldi 0 rfl (v := .int .i64 t) rfl ?_
 refine BB.vr fun q1 e1 => ?_
 cases q1
 ·skip
  have h1 := of_decide_eq_false e1
  refine H.ldi 0 rfl (v := .int .i64 t) rfl ?_
  refine BB.vr fun q2 e2 => ?_
  cases q2
  ·skip
   have h2 := of_decide_eq_false e2
   refine H.ldi 0 rfl (v := .int .i64 m) rfl ?_
   refine BB.vr fun q3 e3 => ?_
   cases q3
   ·skip
    have h3 := of_decide_eq_false e3
    refine H.ldi 0 rfl (v := .int .i64 m) rfl ?_
    refine BB.vr fun q4 e4 => ?_
    cases q4
    ·skip
     have h4 := of_decide_eq_false e4
     refine Cn.no ?_
     refine ⟨?_⟩
     refine H.ldi 0 rfl (v := .slice pa X.length pc) rfl ?_
     refine BB.vr fun q5 e5 => ?_
     cases q5
     ·skip
      have h5 := of_decide_eq_false e5
      refine H.ldi 0 rfl (v := .slice la pl.length lc) rfl ?_
      refine BB.vr fun q6 e6 => ?_
      cases q6
      ·skip
       have h6 := of_decide_eq_false e6
       refine H.ldi 0 rfl (v := .slice da dr.length dc) rfl ?_
       refine BB.vr fun q7 e7 => ?_
       cases q7
       ·skip
        have h7 := of_decide_eq_false e7
        refine Cn.no ?_
        refine ⟨?_⟩
        refine H.ldi 0 rfl (v := .slice pa X.length pc) rfl ?_
        refine ⟨?_⟩
        refine den.loop (ι := Nat) [(2, 2), (4, 4), (50, 57)] (by kernel_rfl) (fun j => [(50, .int .i64 ↑j)]) (fun j w => (j ≤ X.length ∧ ((progsM X).take j).all shortP = true) ∧ SL w (row b1 #[.int .i64 t, .int .i64 m, .slice pa X.length pc, .slice la pl.length lc, .slice da dr.length dc] 25 :: A :: F)) (fun j => X.length - j) 0 ⟨rfl, trivial⟩ ⟨⟨Nat.zero_le _, rfl⟩, (H)⟩ ?_
        rintro j s w ⟨hc, H⟩
        have hob := Nat.lt_or_ge j X.length
        rcases hob with hj | hj
        ·skip
         have hob : ∃ z, X[j]? = some z := ⟨_, List.getElem?_eq_getElem hj⟩
         obtain ⟨px, hY⟩ := hob
         have hob := hX (by omega)
         obtain ⟨pb, po, rfl, hXA⟩ := hob
         have hM : (progsM X)[j]? = some (px.ops.map (·.op)) := by unfold progsM; rw [List.getElem?_map, hY]; rfl
         have hsome := hXA.some_ j px hY
         have hcase := hXA.case j px hY
         obtain ⟨ops, qa, qc⟩ := px
         dsimp only at hM hsome hcase
         refine ⟨?_⟩
         refine BB.yes (decide_eq_true (by omega)) ?_
         refine Cn.yes ?_
         refine ⟨?_⟩
         refine ⟨?_⟩
         refine Ix.at j 1 (by kernel_rfl) (rfl) (hj) ?_
         refine H.ldPv 1 rfl hXA j hY (v := .slice qa ops.length qc) rfl ?_
         refine ⟨?_⟩
         refine BB.vr fun q8 e8 => ?_
         cases q8
         ·skip
          have h8 := of_decide_eq_false e8
          refine Cn.no ?_
          refine ⟨?_⟩
          refine IW.by (wrap_id (n := ↑j + 1) (by omega) (by omega)) ?_
          have hone : shortP (ops.map (·.op)) = true := by unfold shortP; exact decide_eq_true (by rw [List.length_map]; omega)
          exact ⟨j + 1, ⟨rfl, trivial⟩, ⟨⟨by omega, all_step hc.2 hM hone⟩, H⟩, (show X.length - (j + 1) < X.length - j by omega)⟩
         ·skip
          have h8 := of_decide_eq_true e8
          refine Cn.yes ?_
          refine ⟨?_⟩
          refine ret1 (fn := Tryz.f30) (.int .i64 2) rfl (by rfl) ?_
          have hcc : checkE ⟨t, m, progsM X, pl, dr⟩ = 2 := by exact checkE_3 (by dsimp only; omega) (by dsimp only; unfold progsM; rw [List.length_map]; omega) (all_no hM (decide_eq_false (by rw [List.length_map]; omega)))
          rw [hcc]
          exact ⟨rfl, H.pick [1] 2 (by decide)⟩
        ·skip
         have hob : j = X.length := by omega
         obtain rfl := hob
         have hs := hc.2
         rw [List.take_of_length_le (by simp [progsM])] at hs
         refine ⟨?_⟩
         refine BB.no (decide_eq_false (by omega)) ?_
         refine Cn.no ?_
         refine ⟨?_⟩
         refine H.ldi 0 rfl (v := .slice pa X.length pc) rfl ?_
         refine BB.vr fun q9 e9 => ?_
         cases q9
         ·skip
          have h9 := beq_eq_false_iff_ne.1 e9
          refine Cn.no ?_
          refine ⟨?_⟩
          refine H.ldi 0 rfl (v := .slice pa X.length pc) rfl ?_
          refine ⟨?_⟩
          refine den.loop (ι := Nat) [(2, 2), (6, 6), (8, 8), (65, 82)] (by kernel_rfl) (fun k => [(65, .int .i64 ↑k)]) (fun k w => (k ≤ X.length ∧ ((progsM X).take k).all (progOk (X.length : Int)) = true) ∧ SL w (row b1 #[.int .i64 t, .int .i64 m, .slice pa X.length pc, .slice la pl.length lc, .slice da dr.length dc] 25 :: A :: F)) (fun k => X.length - k) 0 ⟨rfl, trivial⟩ ⟨⟨Nat.zero_le _, rfl⟩, (H)⟩ ?_
          rintro k s w ⟨hc, H⟩
          have hob := Nat.lt_or_ge k X.length
          rcases hob with hk | hk
          ·skip
           have hob : ∃ z, X[k]? = some z := ⟨_, List.getElem?_eq_getElem hk⟩
           obtain ⟨px, hY⟩ := hob
           have hob := hX (by omega)
           obtain ⟨pb, po, rfl, hXA⟩ := hob
           have hM : (progsM X)[k]? = some (px.ops.map (·.op)) := by unfold progsM; rw [List.getElem?_map, hY]; rfl
           have hsome := hXA.some_ k px hY
           have hcase := hXA.case k px hY
           obtain ⟨ops, qa, qc⟩ := px
           dsimp only at hM hsome hcase
           have h32 := of_decide_eq_true (show decide ((ops.map (·.op)).length ≤ 32) = true from all_for (p := shortP) hs hM)
           rw [List.length_map] at h32
           refine ⟨?_⟩
           refine BB.yes (decide_eq_true (by omega)) ?_
           refine Cn.yes ?_
           refine ⟨?_⟩
           refine ⟨?_⟩
           refine Ix.at k 1 (by kernel_rfl) (rfl) (hk) ?_
           refine H.ldPv 1 rfl hXA k hY (v := .slice qa ops.length qc) rfl ?_
           refine ⟨?_⟩
           refine ⟨?_⟩
           refine den.loop (ι := Nat) [(2, 2), (8, 8), (71, 81)] (by kernel_rfl) (fun i => [(71, .int .i64 ↑i)]) (fun i w => (i ≤ ops.length ∧ ((ops.map (·.op)).take i).all (fun o => opE (X.length : Int) o == 0) = true) ∧ SL w (row b1 #[.int .i64 t, .int .i64 m, .slice (some ⟨pb, po, none⟩) X.length pc, .slice la pl.length lc, .slice da dr.length dc] 25 :: A :: F)) (fun i => ops.length - i) 0 ⟨rfl, trivial⟩ ⟨⟨Nat.zero_le _, rfl⟩, (H)⟩ ?_
           rintro i s w ⟨hd, H⟩
           have hob := Nat.lt_or_ge i ops.length
           rcases hob with hi | hi
           ·skip
            have hob := hsome (by omega)
            obtain ⟨qb, qo, rfl⟩ := hob
            have hob : ∃ z, ops[i]? = some z := ⟨_, List.getElem?_eq_getElem hi⟩
            obtain ⟨ox, hox⟩ := hob
            have hoM : (ops.map (·.op))[i]? = some ox.op := by rw [List.getElem?_map, hox]; rfl
            refine ⟨?_⟩
            refine BB.yes (decide_eq_true (by omega)) ?_
            refine Cn.yes ?_
            refine ⟨?_⟩
            refine ⟨?_⟩
            refine Ix.at i 5 (by kernel_rfl) (rfl) (hi) ?_
            refine H.ldO 1 rfl hXA k hY rfl i 0 hox (v := .int .i64 ox.op.kind) rfl ?_
            refine H.ldO 1 rfl hXA k hY rfl i 1 hox (v := .int .i64 ox.op.a) rfl ?_
            refine H.ldO 1 rfl hXA k hY rfl i 2 hox (v := .int .i64 ox.op.b) rfl ?_
            refine H.ldO 1 rfl hXA k hY rfl i 3 hox (v := .slice ox.ca ox.op.cases.length ox.cc) rfl ?_
            refine H.ldO 1 rfl hXA k hY rfl i 4 hox (v := .bool ox.op.dflt) rfl ?_
            refine Nw.as #[.int .i64 0, .int .i64 0, .int .i64 0, .slice none 0 0, .bool false] 44 rfl H fun b8 w H => ?_
            refine H.st0 (cs' := #[.int .i64 ox.op.kind, .int .i64 0, .int .i64 0, .slice none 0 0, .bool false]) rfl rfl rfl fun w H => ?_
            refine H.st0 (cs' := #[.int .i64 ox.op.kind, .int .i64 ox.op.a, .int .i64 0, .slice none 0 0, .bool false]) rfl rfl rfl fun w H => ?_
            refine H.st0 (cs' := #[.int .i64 ox.op.kind, .int .i64 ox.op.a, .int .i64 ox.op.b, .slice none 0 0, .bool false]) rfl rfl rfl fun w H => ?_
            refine H.st0 (cs' := #[.int .i64 ox.op.kind, .int .i64 ox.op.a, .int .i64 ox.op.b, .slice ox.ca ox.op.cases.length ox.cc, .bool false]) rfl rfl rfl fun w H => ?_
            refine H.st0 (cs' := #[.int .i64 ox.op.kind, .int .i64 ox.op.a, .int .i64 ox.op.b, .slice ox.ca ox.op.cases.length ox.cc, .bool ox.op.dflt]) rfl rfl rfl fun w H => ?_
            refine ⟨?_⟩
            refine H.ldi 0 rfl (v := .int .i64 ox.op.kind) rfl ?_
            refine H.ldi 0 rfl (v := .int .i64 ox.op.a) rfl ?_
            refine H.ldi 0 rfl (v := .int .i64 ox.op.b) rfl ?_
            refine H.ldi 0 rfl (v := .slice ox.ca ox.op.cases.length ox.cc) rfl ?_
            refine H.ldi 0 rfl (v := .bool ox.op.dflt) rfl ?_
            refine H.ldi 1 rfl (v := .slice (some ⟨pb, po, none⟩) X.length pc) rfl ?_
            have h1 := H.pick [2, 0, 1] 3 (by decide)
            simp only [pk, nth, pkA, pkB, pkC, pkD, pkE, pkF] at h1
            refine Cl.sl (by kernel_rfl) (r_check04 (hcase i ox hox).1 h1) fun w H => ?_
            replace H := H.pick [1, 2, 0] 3 (by decide)
            simp only [pk, nth, pkA, pkB, pkC, pkD, pkE, pkF] at H
            refine BB.vr fun q10 e10 => ?_
            cases q10
            ·skip
             have h10 := bne_eq_false_iff_eq.1 e10
             refine Cn.no ?_
             refine ⟨?_⟩
             refine IW.by (wrap_id (n := ↑i + 1) (by omega) (by omega)) ?_
             have hone : (fun o => opE (X.length : Int) o == 0) ox.op = true := beq_iff_eq.2 (by assumption)
             exact ⟨i + 1, ⟨rfl, trivial⟩, ⟨⟨by omega, all_step hd.2 hoM hone⟩, H.pick [1, 2] 3 (by decide)⟩, (show ops.length - (i + 1) < ops.length - i by omega)⟩
            ·skip
             have h10 := bne_iff_ne.1 e10
             refine Cn.yes ?_
             refine ⟨?_⟩
             refine ret1 (fn := Tryz.f30) (.int .i64 4) rfl (by rfl) ?_
             have hcc : checkE ⟨t, m, progsM X, pl, dr⟩ = 4 := by exact checkE_5 (by dsimp only; omega) (by dsimp only; unfold progsM; rw [List.length_map]; omega) hs (by dsimp only; unfold progsM; rw [List.length_map]; omega) (by dsimp only; rw [progs_len]; exact all_no hM (all_no hoM (beq_eq_false_iff_ne.2 (by assumption))))
             rw [hcc]
             exact ⟨rfl, H.pick [2] 3 (by decide)⟩
           ·skip
            have hob : i = ops.length := by omega
            obtain rfl := hob
            have hq := hd.2
            rw [List.take_of_length_le (by simp)] at hq
            refine ⟨?_⟩
            refine BB.no (decide_eq_false (by omega)) ?_
            refine Cn.no ?_
            refine ⟨?_⟩
            refine IW.by (wrap_id (n := ↑k + 1) (by omega) (by omega)) ?_
            have hone : progOk (X.length : Int) (ops.map (·.op)) = true := hq
            exact ⟨k + 1, ⟨rfl, trivial⟩, ⟨⟨by omega, all_step hc.2 hM hone⟩, H⟩, (show X.length - (k + 1) < X.length - k by omega)⟩
          ·skip
           have hob : k = X.length := by omega
           obtain rfl := hob
           have hp := hc.2
           rw [List.take_of_length_le (by simp [progsM])] at hp
           refine ⟨?_⟩
           refine BB.no (decide_eq_false (by omega)) ?_
           refine Cn.no ?_
           refine ⟨?_⟩
           refine H.ldi 0 rfl (v := .slice la pl.length lc) rfl ?_
           refine ⟨?_⟩
           refine den.loop (ι := Nat) [(2, 2), (10, 10), (86, 96)] (by kernel_rfl) (fun u => [(86, .int .i64 ↑u)]) (fun u w => (u ≤ pl.length ∧ (pl.take u).all planOk = true) ∧ SL w (row b1 #[.int .i64 t, .int .i64 m, .slice pa X.length pc, .slice la pl.length lc, .slice da dr.length dc] 25 :: A :: F)) (fun u => pl.length - u) 0 ⟨rfl, trivial⟩ ⟨⟨Nat.zero_le _, rfl⟩, (H)⟩ ?_
           rintro u s w ⟨hc, H⟩
           have hob := Nat.lt_or_ge u pl.length
           rcases hob with hu | hu
           ·skip
            have hob : ∃ z, pl[u]? = some z := ⟨_, List.getElem?_eq_getElem hu⟩
            obtain ⟨z, hz⟩ := hob
            have hob := H.addrR 1 rfl hL (by omega)
            obtain ⟨lb, lo, rfl⟩ := hob
            refine ⟨?_⟩
            refine BB.yes (decide_eq_true (by omega)) ?_
            refine Cn.yes ?_
            refine ⟨?_⟩
            refine ⟨?_⟩
            refine Ix.at u 1 (by kernel_rfl) (rfl) (hu) ?_
            refine H.ldR 1 rfl hL (by omega) (q := u * 1) (by rw [Nat.mul_one]) (v := .int .i64 z) (int_cell hz) ?_
            refine ⟨?_⟩
            refine BB.vr fun q11 e11 => ?_
            cases q11
            ·skip
             have h11 := of_decide_eq_false e11
             refine BB.vr fun q12 e12 => ?_
             cases q12
             ·skip
              have h12 := of_decide_eq_false e12
              refine Cn.no ?_
              refine ⟨?_⟩
              refine IW.by (wrap_id (n := ↑u + 1) (by omega) (by omega)) ?_
              have hone : planOk z = true := by unfold planOk; exact decide_eq_true ⟨by omega, by omega⟩
              exact ⟨u + 1, ⟨rfl, trivial⟩, ⟨⟨by omega, all_step hc.2 hz hone⟩, H⟩, (show pl.length - (u + 1) < pl.length - u by omega)⟩
             ·skip
              have h12 := of_decide_eq_true e12
              refine Cn.yes ?_
              refine ⟨?_⟩
              refine ret1 (fn := Tryz.f30) (.int .i64 4) rfl (by rfl) ?_
              have hcc : checkE ⟨t, m, progsM X, pl, dr⟩ = 4 := by exact checkE_6 (by dsimp only; omega) (by dsimp only; unfold progsM; rw [List.length_map]; omega) hs (by dsimp only; unfold progsM; rw [List.length_map]; omega) (by dsimp only; rw [progs_len]; exact hp) (all_no hz (decide_eq_false (by omega)))
              rw [hcc]
              exact ⟨rfl, H.pick [1] 2 (by decide)⟩
            ·skip
             have h11 := of_decide_eq_true e11
             refine Cn.yes ?_
             refine ⟨?_⟩
             refine ret1 (fn := Tryz.f30) (.int .i64 4) rfl (by rfl) ?_
             have hcc : checkE ⟨t, m, progsM X, pl, dr⟩ = 4 := by exact checkE_6 (by dsimp only; omega) (by dsimp only; unfold progsM; rw [List.length_map]; omega) hs (by dsimp only; unfold progsM; rw [List.length_map]; omega) (by dsimp only; rw [progs_len]; exact hp) (all_no hz (decide_eq_false (by omega)))
             rw [hcc]
             exact ⟨rfl, H.pick [1] 2 (by decide)⟩
           ·skip
            have hob : u = pl.length := by omega
            obtain rfl := hob
            have hlp := hc.2
            rw [List.take_length] at hlp
            refine ⟨?_⟩
            refine BB.no (decide_eq_false (by omega)) ?_
            refine Cn.no ?_
            refine ⟨?_⟩
            refine H.ldi 0 rfl (v := .slice da dr.length dc) rfl ?_
            refine ⟨?_⟩
            refine den.loop (ι := Nat) [(2, 2), (12, 12), (100, 110)] (by kernel_rfl) (fun v => [(100, .int .i64 ↑v)]) (fun v w => (v ≤ dr.length ∧ (dr.take v).all drawOk = true) ∧ SL w (row b1 #[.int .i64 t, .int .i64 m, .slice pa X.length pc, .slice la pl.length lc, .slice da dr.length dc] 25 :: A :: F)) (fun v => dr.length - v) 0 ⟨rfl, trivial⟩ ⟨⟨Nat.zero_le _, rfl⟩, (H)⟩ ?_
            rintro v s w ⟨hc, H⟩
            have hob := Nat.lt_or_ge v dr.length
            rcases hob with hv | hv
            ·skip
             have hob : ∃ z, dr[v]? = some z := ⟨_, List.getElem?_eq_getElem hv⟩
             obtain ⟨y, hy⟩ := hob
             have hob := H.addrR 1 rfl hD (by omega)
             obtain ⟨db, dO, rfl⟩ := hob
             refine ⟨?_⟩
             refine BB.yes (decide_eq_true (by omega)) ?_
             refine Cn.yes ?_
             refine ⟨?_⟩
             refine ⟨?_⟩
             refine Ix.at v 1 (by kernel_rfl) (rfl) (hv) ?_
             refine H.ldR 1 rfl hD (by omega) (q := v * 1) (by rw [Nat.mul_one]) (v := .int .i64 y) (int_cell hy) ?_
             refine ⟨?_⟩
             refine BB.vr fun q13 e13 => ?_
             cases q13
             ·skip
              have h13 := of_decide_eq_false e13
              refine BB.vr fun q14 e14 => ?_
              cases q14
              ·skip
               have h14 := of_decide_eq_false e14
               refine Cn.no ?_
               refine ⟨?_⟩
               refine IW.by (wrap_id (n := ↑v + 1) (by omega) (by omega)) ?_
               have hone : drawOk y = true := by unfold drawOk; exact decide_eq_true ⟨by omega, by omega⟩
               exact ⟨v + 1, ⟨rfl, trivial⟩, ⟨⟨by omega, all_step hc.2 hy hone⟩, H⟩, (show dr.length - (v + 1) < dr.length - v by omega)⟩
              ·skip
               have h14 := of_decide_eq_true e14
               refine Cn.yes ?_
               refine ⟨?_⟩
               refine ret1 (fn := Tryz.f30) (.int .i64 4) rfl (by rfl) ?_
               have hcc : checkE ⟨t, m, progsM X, pl, dr⟩ = 4 := by exact checkE_7 (by dsimp only; omega) (by dsimp only; unfold progsM; rw [List.length_map]; omega) hs (by dsimp only; unfold progsM; rw [List.length_map]; omega) (by dsimp only; rw [progs_len]; exact hp) hlp (all_no hy (decide_eq_false (by omega)))
               rw [hcc]
               exact ⟨rfl, H.pick [1] 2 (by decide)⟩
             ·skip
              have h13 := of_decide_eq_true e13
              refine Cn.yes ?_
              refine ⟨?_⟩
              refine ret1 (fn := Tryz.f30) (.int .i64 4) rfl (by rfl) ?_
              have hcc : checkE ⟨t, m, progsM X, pl, dr⟩ = 4 := by exact checkE_7 (by dsimp only; omega) (by dsimp only; unfold progsM; rw [List.length_map]; omega) hs (by dsimp only; unfold progsM; rw [List.length_map]; omega) (by dsimp only; rw [progs_len]; exact hp) hlp (all_no hy (decide_eq_false (by omega)))
              rw [hcc]
              exact ⟨rfl, H.pick [1] 2 (by decide)⟩
            ·skip
             have hob : v = dr.length := by omega
             obtain rfl := hob
             have hdp := hc.2
             rw [List.take_length] at hdp
             refine ⟨?_⟩
             refine BB.no (decide_eq_false (by omega)) ?_
             refine Cn.no ?_
             refine ⟨?_⟩
             refine ret1 (fn := Tryz.f30) (.int .i64 0) rfl (by rfl) ?_
             have hcc : checkE ⟨t, m, progsM X, pl, dr⟩ = 0 := by exact checkE_0 (by dsimp only; omega) (by dsimp only; unfold progsM; rw [List.length_map]; omega) hs (by dsimp only; unfold progsM; rw [List.length_map]; omega) (by dsimp only; rw [progs_len]; exact hp) hlp hdp
             rw [hcc]
             exact ⟨rfl, H.pick [1] 2 (by decide)⟩
         ·skip
          have h9 := eq_of_beq e9
          refine Cn.yes ?_
          refine ⟨?_⟩
          refine ret1 (fn := Tryz.f30) (.int .i64 4) rfl (by rfl) ?_
          have hcc : checkE ⟨t, m, progsM X, pl, dr⟩ = 4 := by exact checkE_4 (by dsimp only; omega) (by dsimp only; unfold progsM; rw [List.length_map]; omega) hs (by dsimp only; unfold progsM; rw [List.length_map]; omega)
          rw [hcc]
          exact ⟨rfl, H.pick [1] 2 (by decide)⟩
       ·skip
        have h7 := of_decide_eq_true e7
        refine Cn.yes ?_
        refine ⟨?_⟩
        refine ret1 (fn := Tryz.f30) (.int .i64 2) rfl (by rfl) ?_
        have hcc : checkE ⟨t, m, progsM X, pl, dr⟩ = 2 := by exact checkE_2 (by dsimp only; omega) (by dsimp only; unfold progsM; rw [List.length_map]; omega)
        rw [hcc]
        exact ⟨rfl, H.pick [1] 2 (by decide)⟩
      ·skip
       have h6 := of_decide_eq_true e6
       refine Cn.yes ?_
       refine ⟨?_⟩
       refine ret1 (fn := Tryz.f30) (.int .i64 2) rfl (by rfl) ?_
       have hcc : checkE ⟨t, m, progsM X, pl, dr⟩ = 2 := by exact checkE_2 (by dsimp only; omega) (by dsimp only; unfold progsM; rw [List.length_map]; omega)
       rw [hcc]
       exact ⟨rfl, H.pick [1] 2 (by decide)⟩
     ·skip
      have h5 := of_decide_eq_true e5
      refine Cn.yes ?_
      refine ⟨?_⟩
      refine ret1 (fn := Tryz.f30) (.int .i64 2) rfl (by rfl) ?_
      have hcc : checkE ⟨t, m, progsM X, pl, dr⟩ = 2 := by exact checkE_2 (by dsimp only; omega) (by dsimp only; unfold progsM; rw [List.length_map]; omega)
      rw [hcc]
      exact ⟨rfl, H.pick [1] 2 (by decide)⟩
    ·skip
     have h4 := of_decide_eq_true e4
     refine Cn.yes ?_
     refine ⟨?_⟩
     refine ret1 (fn := Tryz.f30) (.int .i64 1) rfl (by rfl) ?_
     have hcc : checkE ⟨t, m, progsM X, pl, dr⟩ = 1 := by exact checkE_1 (by dsimp only; omega)
     rw [hcc]
     exact ⟨rfl, H.pick [1] 2 (by decide)⟩
   ·skip
    have h3 := of_decide_eq_true e3
    refine Cn.yes ?_
    refine ⟨?_⟩
    refine ret1 (fn := Tryz.f30) (.int .i64 1) rfl (by rfl) ?_
    have hcc : checkE ⟨t, m, progsM X, pl, dr⟩ = 1 := by exact checkE_1 (by dsimp only; omega)
    rw [hcc]
    exact ⟨rfl, H.pick [1] 2 (by decide)⟩
  ·skip
   have h2 := of_decide_eq_true e2
   refine Cn.yes ?_
   refine ⟨?_⟩
   refine ret1 (fn := Tryz.f30) (.int .i64 1) rfl (by rfl) ?_
   have hcc : checkE ⟨t, m, progsM X, pl, dr⟩ = 1 := by exact checkE_1 (by dsimp only; omega)
   rw [hcc]
   exact ⟨rfl, H.pick [1] 2 (by decide)⟩
 ·skip
  have h1 := of_decide_eq_true e1
  refine Cn.yes ?_
  refine ⟨?_⟩
  refine ret1 (fn := Tryz.f30) (.int .i64 1) rfl (by rfl) ?_
  have hcc : checkE ⟨t, m, progsM X, pl, dr⟩ = 1 := by exact checkE_1 (by dsimp only; omega)
  rw [hcc]
  exact ⟨rfl, H.pick [1] 2 (by decide)⟩
end Go.Proofs.YtcgajljbahbhdaaGreat
