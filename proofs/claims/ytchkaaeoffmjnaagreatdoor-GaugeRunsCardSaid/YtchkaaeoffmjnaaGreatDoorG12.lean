/- Texts of the proof, several in one file: SxC, SxG, Loom10, Loom11, LoomB6, LoomB7, LoomB8, SheetA. -/
import Derived.Test.YtchkaaeoffmjnaaGreatDoorG07
import Derived.Test.YtchkaaeoffmjnaaGreatDoorG03
import Derived.Test.YtchkaaeoffmjnaaGreatDoorG06
import Derived.ScopeJumps
import Derived.Test.YtchkaaeoffmjnaaGreatDoorG08
import Derived.Test.YtchkaaeoffmjnaaGreatDoorG11
namespace Go.Proofs.YtchkaaeoffmjnaaGreatDoor
set_option linter.unusedVariables false
set_option linter.unusedSimpArgs false
open Go.RowKit
section
variable {P : Program} {w : World} {L : List Piece} {σ : Fr}
theorem ret3C {fn : Func} {R : Ending → World → Prop} {t p u ty b te : Nat} {cs : Array Value} {v y : Value} (H : SL w L) (i : Nat) (hi : L[i]? = some (row b cs te)) (hr : fn.results = #[.tmp t, .cell p ty, .tmp u]) (hv : σ t = v) (hp : σ p = .pointer (some ⟨b, 0, none⟩)) (hy : σ u = y)
  (hd : (match P.underlying ty with | some (.struct _) => true | some (.array _ _) => true | _ => false) = true) (hs : (P.info? ty).map (·.size) = some cs.size) (h : R (.returned (.tuple #[v, .agg cs, y])) w) : RetOf P fn R σ w := by
 cases hu : P.underlying ty with
 | none => rw [hu] at hd; cases hd
 | some d =>
  rw [hu] at hd
  have key : ((loadVar ty ⟨b, 0, none⟩).run P w) = .ok (.agg cs) w := by
   cases d <;> first | (cases hd; done) | exact run_loadVar_row w b te ty cs (0, 0) _ (H.at i hi) hu rfl hs
  refine ⟨⟨_, fun a ha => ?_, h⟩⟩
  have h1 := ha t
  have h2 := ha p
  have h3 := ha u
  rw [hv] at h1
  rw [hp] at h2
  rw [hy] at h3
  have hp' : a.tmps[p]?.getD undef = .pointer (some ⟨b, 0, none⟩) := by simpa using h2
  have h1' : a.tmps[t]?.getD undef = v := by simpa using h1
  have h3' : a.tmps[u]?.getD undef = y := by simpa using h3
  simp [results, hr, h1', h3', hp', asAddr, key]
theorem run_cut {t lo n c te sz : Nat} {op : Oper} (x l : Operand) (hop : op.op = .slice t x (some l) none none) (ht : P.underlying t = some (.slice te)) (hsz : (P.info? te).map (·.size) = some sz) {a : Option Addr} (hn : lo ≤ n) (hc : n ≤ c)
  (hx : ev σ x = .slice a n c) (hl : ev σ l = .int .i64 (lo : Int)) (w : World) : (execOp (ev σ) op).run P w = .ok (.value (.slice (if c = lo then a else a.map (·.add (lo * sz))) (n - lo) (c - lo))) w := by
 obtain ⟨i, hi, hs⟩ := Option.map_eq_some_iff.1 hsz
 have hle : (lo : Int) ≤ (n : Int) := by omega
 have h1 : ¬ (n < lo) := by omega
 have h2 : ¬ ((lo : Int) < 0) := by omega
 by_cases hc1 : c = lo
 ·subst hc1
  have hnc : n = c := by omega
  subst hnc
  simp [execOp, hop, hx, hl, Instr.sliceAt, Instr.slice, run_underlying ht, Instr.sliceBounds, Instr.sliceBound, asIntOf, sizeOf, typeInfo, hi, Result.andThen]
 ·simp [execOp, hop, hx, hl, Instr.sliceAt, Instr.slice, run_underlying ht, Instr.sliceBounds, Instr.sliceBound, asIntOf, hle, h1, hn, sizeOf, typeInfo, hi, hs, hc1, Result.andThen]
/-- v[lo:] of a slice of one's own, to be read. -/
theorem Mn.cutS {te sz n lo : Nat} {v : Value} {xs : List Value} {op : Oper} {K : Value → World → Prop} (H : SL w L) (i : Nat) (hi : L[i]? = some (Slc te sz v n xs)) (x l : Operand) (t : Nat) (hop : op.op = .slice t x (some l) none none) (ht : P.underlying t = some (.slice te)) (hsz : (P.info? te).map (·.size) = some sz)
  (hx : ev σ x = v) (hl : ev σ l = .int .i64 (lo : Int)) (hlo : lo ≤ n) (k : ∀ a c, Reader (Slc te sz v n xs) sz a (n - lo) (xs.drop (lo * sz)) → K (.slice a (n - lo) c) w) : Mn P σ op w K := by
 obtain ⟨T, _, h, _⟩ := SLs.at i H hi
 obtain ⟨hlen, h2⟩ := h
 rcases h2 with ⟨rfl, h0⟩ | ⟨g, cap, cur, rfl, _, hg, hnc, hcm, hcs, htake⟩
 ·subst h0
  refine Mn.by (run_cut x l hop ht hsz hlo (Nat.le_refl _) hx hl w) ?_
  refine k _ _ (fun S w' hS => ⟨?_, by rw [Nat.zero_sub]; exact Nat.zero_le _, fun hn => ?_⟩)
  ·rw [List.length_drop, hlen]; simp
  ·omega
 ·refine Mn.by (run_cut x l hop ht hsz hlo hnc hx hl w) ?_
  refine k _ _ (fun S w' hS => ?_)
  refine ⟨by rw [List.length_drop, hlen, Nat.sub_mul], by omega, fun hn => ?_⟩
  have hc1 : cap ≠ lo := by omega
  rw [if_neg hc1]
  refine ⟨g, 0 + lo * sz, by simp only [Option.map_some, Addr_add], fun j u hu => ?_⟩
  rw [List.getElem?_drop] at hu
  have := own_cell hS.1 hu
  rw [Nat.zero_add]
  exact this
end
end Go.Proofs.YtchkaaeoffmjnaaGreatDoor
namespace Go.Proofs.YtchkaaeoffmjnaaGreatDoor
set_option linter.unusedVariables false
set_option linter.unusedSimpArgs false
open Go.RowKit
/-- A goto as an exit. -/
def ungo : Code → Code
 | .seq a b => .seq (ungo a) (ungo b)
 | .cond t a b => .cond t (ungo a) (ungo b)
 | .block i c => .block i (ungo c)
 | .goto l => .exit (1000000 + l)
 | .label _ => .skip
 | c => c
def fineG (n : Nat) : Code → Bool
 | .seq a b => fineG n a && fineG n b
 | .cond _ a b => fineG n a && fineG n b
 | .block i c => decide (i < 1000000) && fineG n c
 | .exit i => decide (i < 1000000)
 | .goto _ | .label _ => true
 | .skip | .ret => true
 | .region _ ops _ => dstOk n ops
 | _ => false
section
variable {n : Nat} {P : Program}
theorem den_wpG : ∀ (c : Code), fineG n c = true → ∀ (a : Act) (σ : Fr) (w : World) (K : Fr → World → Prop) (X : Nat → Fr → World → Prop) (R : Fr → World → Prop) (Q : Exit → Act → World → Prop),
  Sim n a σ → (∀ a σ w, Sim n a σ → K σ w → Q .normal a w) → (∀ i a σ w, i < 1000000 → Sim n a σ → X i σ w → Q (.exit i) a w) → (∀ l a σ w, Sim n a σ → X (1000000 + l) σ w → Q (.goto l) a w) → (∀ a σ w, Sim n a σ → R σ w → Q .ret a w) → den P n (ungo c) σ w K X R → c.wp P Q a w := by
 intro c
 induction c with
 | skip => exact fun _ a σ w K X R Q hs hK hX hG hR h => wp_skip (hK _ _ _ hs h)
 | exit i => exact fun hf a σ w K X R Q hs hK hX hG hR h => wp_exit (hX _ _ _ _ (of_decide_eq_true hf) hs h)
 | goto l => exact fun hf a σ w K X R Q hs hK hX hG hR h => wp_goto (hG _ _ _ _ hs h)
 | label l => exact fun hf a σ w K X R Q hs hK hX hG hR h => wp_label (hK _ _ _ hs h)
 | ret => exact fun _ a σ w K X R Q hs hK hX hG hR h => wp_ret (hR _ _ _ hs h)
 | region id ops d =>
  intro hf a σ w K X R Q hs hK hX hG hR h
  exact den_wp (.region id ops d) hf a σ w K (fun _ _ _ => False) (fun _ _ => False) Q hs hK (fun _ _ _ _ _ h => h.elim) (fun _ _ _ _ h => h.elim) h
 | seq x y ihx ihy =>
  intro hf a σ w K X R Q hs hK hX hG hR h
  simp only [fineG, Bool.and_eq_true] at hf
  exact wp_seq (ihx hf.1 a σ w _ X R _ hs (fun a σ w hs h => ihy hf.2 a σ w K X R Q hs hK hX hG hR h) hX hG hR h)
 | cond c x y ihx ihy =>
  intro hf a σ w K X R Q hs hK hX hG hR h
  simp only [fineG, Bool.and_eq_true] at hf
  obtain ⟨b, hb, h1, h2⟩ := h.out.out
  rw [hs.ev] at hb
  exact wp_cond_split hb (fun e => ihx hf.1 a σ w K X R Q hs hK hX hG hR (h1 e)) (fun e => ihy hf.2 a σ w K X R Q hs hK hX hG hR (h2 e))
 | block id c ih =>
  intro hf a σ w K X R Q hs hK hX hG hR h
  simp only [fineG, Bool.and_eq_true, decide_eq_true_eq] at hf
  refine wp_block (ih hf.2 a σ w K _ R _ hs hK ?_ ?_ hR h.out)
  ·intro i a σ w hi hs h
   simp only [Exit.inBlock]
   by_cases e : i = id
   ·subst e
    rw [if_pos rfl]
    rw [show Nat.beq i i = true from Nat.beq_refl i] at h
    exact hK _ _ _ hs h
   ·rw [if_neg e]
    have : Nat.beq i id = false := by cases hb : Nat.beq i id <;> first | rfl | exact absurd (Nat.eq_of_beq_eq_true hb) e
    rw [this] at h
    exact hX _ _ _ _ hi hs h
  ·intro l a σ w hs h
   have : Nat.beq (1000000 + l) id = false := by cases hb : Nat.beq (1000000 + l) id <;> first | rfl | exact absurd (Nat.eq_of_beq_eq_true hb) (by omega)
   rw [this] at h
   exact hG _ _ _ _ hs h
 | _ => exact fun hf => by simp [fineG] at hf
/-- A function in a scope: what jumps to the label goes on with what stands behind it. -/
theorem calls_scope {f : FuncId} {fn : Func} {c0 c rest : Code} {args : List Value} {w : World} {R : Ending → World → Prop} (l : Nat) (hf : P.funcs[f]? = some fn) (hb : fn.body = some (.seq c0 (.scope c))) (hl : findLabel c l = some rest) (hn : args.length ≤ fn.ntmps) (hc0 : fine fn.ntmps c0 = true) (hc : fineG fn.ntmps c = true) (hr : fine fn.ntmps rest = true)
  (h : den P fn.ntmps c0 (frame0 args) w (fun σ w => den P fn.ntmps (ungo c) σ w (RetOf P fn R) (fun i σ w => i = 1000000 + l ∧ den P fn.ntmps rest σ w (RetOf P fn R) (fun _ _ _ => False) (RetOf P fn R)) (RetOf P fn R)) (fun _ _ _ => False) (RetOf P fn R)) : Calls P f args.toArray w R := by
 have hret : ∀ (a : Act) (σ : Fr) (w : World), Sim fn.ntmps a σ → RetOf P fn R σ w → bodyPost P fn R .ret a w := by
  rintro a σ w' ⟨s1, s2, rfl⟩ ⟨⟨v, h1, h2⟩⟩
  exact ⟨s2, v, h1 a (fun _ => rfl), h2⟩
 have hnorm : ∀ (a : Act) (σ : Fr) (w : World), Sim fn.ntmps a σ → RetOf P fn R σ w → bodyPost P fn R .normal a w := by
  rintro a σ w' ⟨s1, s2, rfl⟩ ⟨⟨v, h1, h2⟩⟩
  exact ⟨s2, v, h1 a (fun _ => rfl), h2⟩
 refine calls_of_wp hf hb (wp_seq (den_wp c0 hc0 _ _ w _ (fun _ _ _ => False) (RetOf P fn R) _ ⟨?_, rfl, ?_⟩ ?_ (fun _ _ _ _ _ h => h.elim) hret h))
 ·simp; omega
 ·funext i
  unfold frame0
  simp only [Array.getD_eq_getD_getElem?, Array.getElem?_append, Array.getElem?_replicate]
  by_cases hi : i < args.length
  ·simp [hi]
  ·simp [hi]
   split <;> rfl
 intro a σ w hs h
 refine wp_scope_jumps l (fun a w => ∃ σ, Sim fn.ntmps a σ ∧ den P fn.ntmps rest σ w (RetOf P fn R) (fun _ _ _ => False) (RetOf P fn R)) (fun _ _ => 0) hl
  (den_wpG c hc _ _ w (RetOf P fn R) (fun i σ w => i = 1000000 + l ∧ den P fn.ntmps rest σ w (RetOf P fn R) (fun _ _ _ => False) (RetOf P fn R)) (RetOf P fn R) _ hs hnorm (fun i _ _ _ hi _ h => by omega) ?_ hret h) ?_
 ·rintro k a σ w' hs ⟨hk, h⟩
  exact ⟨by omega, σ, hs, h⟩
 ·rintro a w' ⟨σ, hs, h⟩
  exact den_wp rest hr a σ w' _ _ _ _ hs hnorm (fun _ _ _ _ _ h => h.elim) hret h
end
end Go.Proofs.YtchkaaeoffmjnaaGreatDoor
namespace Go.Proofs.YtchkaaeoffmjnaaGreatDoor
set_option linter.unusedVariables false
set_option linter.unusedSimpArgs false
open Go.RowKit
set_option maxRecDepth 100000
section
variable {np k a b : Int} {cs : List CaseM} {df : Bool}
end
end Go.Proofs.YtchkaaeoffmjnaaGreatDoor
namespace Go.Proofs.YtchkaaeoffmjnaaGreatDoor
set_option linter.unusedVariables false
set_option linter.unusedSimpArgs false
open Go.RowKit
set_option maxRecDepth 100000
section
variable {w : World} {L F : List Piece} {A : Piece} {b off : Nat} {X : List ProgX} {p : ProgX} {v : Value} {K : Value → Prop}
theorem SL.ldPv (H : SL w L) (i : Nat) (hi : L[i]? = some A) (hX : ScrA A b off X) (k : Nat) (hk : X[k]? = some p) (hv : .slice p.pa p.ops.length p.pc = v) (h : K v) : Ld w ⟨b, off + k * 1, none⟩ K := H.ldP i hi hX k hk (by rw [hv]; exact h)
end
theorem int_cell {xs : List Int} {j : Nat} {z : Int} (h : xs[j]? = some z) : (ints xs)[j * 1]? = some (.int .i64 z) := by
 rw [Nat.mul_one]
 unfold ints
 rw [List.getElem?_map, h]
 rfl
section
variable {s : ScrM} (h1 : ¬ (s.t < 1 ∨ 256 < s.t ∨ s.m < 1 ∨ 1048576 < s.m)) (h2 : ¬ (8 < s.progs.length ∨ 200 < s.plan.length ∨ 64 < s.draws.length)) (h3 : s.progs.all shortP = true) (h4 : ¬ s.progs.length = 0) (h5 : s.progs.all (progOk s.progs.length) = true) (h6 : s.plan.all planOk = true)
theorem checkE_1 (h : s.t < 1 ∨ 256 < s.t ∨ s.m < 1 ∨ 1048576 < s.m) : checkE s = 1 := by unfold checkE; rw [if_pos h]
include h1
theorem checkE_2 (h : 8 < s.progs.length ∨ 200 < s.plan.length ∨ 64 < s.draws.length) : checkE s = 2 := by unfold checkE; rw [if_neg h1, if_pos h]
include h2
theorem checkE_3 (h : s.progs.all shortP = false) : checkE s = 2 := by unfold checkE; rw [if_neg h1, if_neg h2, if_pos h]
include h3
theorem checkE_4 (h : s.progs.length = 0) : checkE s = 4 := by unfold checkE; rw [if_neg h1, if_neg h2, if_neg (by simp [h3]), if_pos h]
include h4
theorem checkE_5 (h : s.progs.all (progOk s.progs.length) = false) : checkE s = 4 := by unfold checkE; rw [if_neg h1, if_neg h2, if_neg (by simp [h3]), if_neg h4, if_pos h]
include h5
theorem checkE_6 (h : s.plan.all planOk = false) : checkE s = 4 := by unfold checkE; rw [if_neg h1, if_neg h2, if_neg (by simp [h3]), if_neg h4, if_neg (by rw [h5]; exact Bool.noConfusion), if_pos h]
include h6
theorem checkE_7 (h : s.draws.all drawOk = false) : checkE s = 4 := by unfold checkE; rw [if_neg h1, if_neg h2, if_neg (by simp [h3]), if_neg h4, if_neg (by rw [h5]; exact Bool.noConfusion), if_neg (by rw [h6]; exact Bool.noConfusion), if_pos h]
theorem checkE_0 (h : s.draws.all drawOk = true) : checkE s = 0 := by unfold checkE; rw [if_neg h1, if_neg h2, if_neg (by simp [h3]), if_neg h4, if_neg (by rw [h5]; exact Bool.noConfusion), if_neg (by rw [h6]; exact Bool.noConfusion), if_neg (by rw [h]; exact Bool.noConfusion)]
end
end Go.Proofs.YtchkaaeoffmjnaaGreatDoor
namespace Go.Proofs.YtchkaaeoffmjnaaGreatDoor
set_option linter.unusedVariables false
set_option linter.unusedSimpArgs false
open Go.RowKit
set_option maxRecDepth 100000
theorem p_verdict {w : World} {F : List Piece} {np k lb : Nat} {sc : ScrM} {x : LmM} {t m : Int} {vp vl vd : Value} {n0 n1 n2 n3 n4 n5 n6 n7 : Int} (hn : x.name = [n0, n1, n2, n3, n4, n5, n6, n7]) (hk : Lk np k x)  (H : SL w (LmP lb sc ⟨t, m, vp, vl, vd⟩ x :: F)) : Calls Tryz.prog 22 #[.pointer (some ⟨lb, 0, none⟩)] w fun o w' => o = .returned (.int .i64 (verL sc x)) ∧ SL w' (LmP lb sc ⟨t, m, vp, vl, vd⟩ x :: F) := by
 have hld : (sc.plan.drop x.p).length = sc.plan.length - x.p := List.length_drop
 have hob := lm_open (x := x) hn H
 obtain ⟨cb1, crb1, pn1, pc1, ala1, alc1, ta1, tc1, ps1, hl1, H⟩ := hob
 refine calls_den (args := [_]) Tryz.func22 rfl (Nat.le_of_ble_eq_true (by kernel_rfl)) (by kernel_rfl) ?_
 refine ⟨?_⟩
 refine ⟨?_⟩
 refine ⟨?_⟩
 refine BB.no rfl ?_
 refine Cn.no ?_
 refine ⟨?_⟩
 refine H.ldi 0 rfl (v := .bool x.pan) rfl ?_
 refine BB.vr fun q1 e1 => ?_
 cases q1
 ·skip
  refine Cn.no ?_
  refine ⟨?_⟩
  refine H.ldi 0 rfl (v := .pointer (some ⟨crb1, 0, none⟩)) rfl ?_
  have h1 := H.pick [2, 0, 1, 3, 4, 5, 6] 7 (by decide)
  simp only [pk, nth, pkA, pkB, pkC, pkD, pkE, pkF] at h1
  refine Cl.sl (by kernel_rfl) (p_over (L := x.crew) hk.cl h1) fun w H => ?_
  replace H := H.pick [1, 2, 0, 3, 4, 5, 6] 7 (by decide)
  simp only [pk, nth, pkA, pkB, pkC, pkD, pkE, pkF] at H
  refine ⟨?_⟩
  refine BB.vr fun q2 e2 => ?_
  cases q2
  ·skip
   have h2 := bne_eq_false_iff_eq.1 e2
   refine Cn.no ?_
   refine ⟨?_⟩
   refine H.ldi 0 rfl (v := .pointer (some ⟨cb1, 0, none⟩)) rfl ?_
   have h1 := H.pick [1, 0, 2, 3, 4, 5, 6] 7 (by decide)
   simp only [pk, nth, pkA, pkB, pkC, pkD, pkE, pkF] at h1
   refine Cl.sl (by kernel_rfl) (cur_left h1) fun w H => ?_
   replace H := H.pick [1, 0, 2, 3, 4, 5, 6] 7 (by decide)
   simp only [pk, nth, pkA, pkB, pkC, pkD, pkE, pkF] at H
   refine ⟨?_⟩
   refine BB.vr fun q3 e3 => ?_
   cases q3
   ·skip
    have h3 := beq_eq_false_iff_ne.1 e3
    refine Cn.no ?_
    refine ⟨?_⟩
    refine ret1 (fn := Tryz.f22) (.int .i64 0) rfl (by rfl) ?_
    have H0 := H
    replace H := lm_shut (x := x) hl1 (by first | rfl | simp [turnL, noteL, backN_len]) hn H0
    have hc : verL sc x = 0 := by unfold verL; rw [if_neg (by simp [*]), if_neg (fun h => h (by assumption)), if_neg (by omega)]
    rw [hc]
    exact ⟨rfl, H⟩
   ·skip
    have h3 := eq_of_beq e3
    refine Cn.yes ?_
    refine ⟨?_⟩
    refine ret1 (fn := Tryz.f22) (.int .i64 4) rfl (by rfl) ?_
    have H0 := H
    replace H := lm_shut (x := x) hl1 (by first | rfl | simp [turnL, noteL, backN_len]) hn H0
    have hc : verL sc x = 4 := by unfold verL; rw [if_neg (by simp [*]), if_neg (fun h => h (by assumption)), if_pos (by omega)]
    rw [hc]
    exact ⟨rfl, H⟩
  ·skip
   have h2 := bne_iff_ne.1 e2
   refine Cn.yes ?_
   refine ⟨?_⟩
   refine ret1 (fn := Tryz.f22) (.int .i64 (overF x.crew)) rfl (by rfl) ?_
   have H0 := H
   replace H := lm_shut (x := x) hl1 (by first | rfl | simp [turnL, noteL, backN_len]) hn H0
   have hc : verL sc x = (overF x.crew) := by unfold verL; rw [if_neg (by simp [*]), if_pos (by assumption)]
   rw [hc]
   exact ⟨rfl, H⟩
 ·skip
  refine Cn.yes ?_
  refine ⟨?_⟩
  refine ret1 (fn := Tryz.f22) (.int .i64 3) rfl (by rfl) ?_
  have H0 := H
  replace H := lm_shut (x := x) hl1 (by first | rfl | simp [turnL, noteL, backN_len]) hn H0
  have hc : verL sc x = 3 := by unfold verL; rw [if_pos (by assumption)]
  rw [hc]
  exact ⟨rfl, H⟩
theorem p_of {w : World} {F : List Piece} {a : Option Addr} {ac : Nat} {L : List Int} {z : Int} (hr : Rd w 1 a L.length (ints L)) (hz : 0 ≤ z) (hab : 0 < L.length) (H : SL w F) : Calls Tryz.prog 152 #[.int .i64 z, .slice a L.length ac] w fun o w' => o = .returned (.tuple #[.int .i64 (L.getD (z.toNat % L.length) 0), .int .i64 0]) ∧ SL w' F := by
 obtain ⟨ab, ao, rfl, hcell⟩ := Rd.int_at hr hab
 have hcell' : ∀ j, j < L.length → w.cell? ⟨ab, ao + j * 1, none⟩ = some (.int .i64 (L.getD j 0)) := fun j hj => by rw [Nat.mul_one]; exact hcell j hj
 have hjl : z.toNat % L.length < L.length := Nat.mod_lt _ hab
 have hzm : (z % (L.length : Int)) = ((z.toNat % L.length : Nat) : Int) := by obtain ⟨k, rfl⟩ := Int.eq_ofNat_of_zero_le hz; simp
 refine calls_den (args := [_, _]) Tryz.func152 rfl (Nat.le_of_ble_eq_true (by kernel_rfl)) (by kernel_rfl) ?_
 refine ⟨?_⟩
 refine ⟨?_⟩
 refine ⟨?_⟩
 refine BB.no (decide_eq_false (by omega)) ?_
 refine Cn.no ?_
 refine ⟨?_⟩
 refine BB.no (beq_eq_false_iff_ne.2 (by omega)) ?_
 refine Cn.no ?_
 refine ⟨?_⟩
 refine Mn.rem (.tmp 14) (.tmp 16) 3 3 (by rfl) z ↑L.length (by rfl) (by rfl) ((by omega)) ((by omega)) (z % ↑L.length) (rfl) ?_
 refine Ix.at (z.toNat % L.length) 1 (by kernel_rfl) (hzm) (hjl) ?_
 refine Ld.by (hcell' _ hjl) ?_
 refine ret2 (fn := Tryz.f152) (.int .i64 (L.getD (z.toNat % L.length) 0)) (.int .i64 0) rfl (by rfl) (by rfl) ?_
 exact ⟨rfl, H⟩
theorem p_chosen {w : World} {F : List Piece} {np k lb : Nat} {sc : ScrM} {x : LmM} {t m : Int} {vp vl vd : Value} {n0 n1 n2 n3 n4 n5 n6 n7 : Int} (hn : x.name = [n0, n1, n2, n3, n4, n5, n6, n7]) (hk : Lk np k x)  (z : Int) (hz : -1 ≤ z) (hab : z ≠ -1 → 0 < (ableF x.crew).length) (H : SL w (LmP lb sc ⟨t, m, vp, vl, vd⟩ x :: F)) : Calls Tryz.prog 104 #[.pointer (some ⟨lb, 0, none⟩), .int .i64 z] w fun o w' => o = .returned (.int .i64 (if z = -1 then (-1 : Int) else (ableF x.crew).getD (z.toNat % (ableF x.crew).length) 0)) ∧ SL w' (LmP lb sc ⟨t, m, vp, vl, vd⟩ x :: F) := by
 have hob := lm_open (x := x) hn H
 obtain ⟨cb1, crb1, pn1, pc1, ala1, alc1, ta1, tc1, ps1, hl1, H⟩ := hob
 refine calls_den (args := [_, _]) Tryz.func104 rfl (Nat.le_of_ble_eq_true (by kernel_rfl)) (by kernel_rfl) ?_
 refine ⟨?_⟩
 refine ⟨?_⟩
 refine BB.vr fun q1 e1 => ?_
 cases q1
 ·skip
  have h1 := beq_eq_false_iff_ne.1 e1
  refine Cn.no ?_
  refine ⟨?_⟩
  refine H.ldi 0 rfl (v := .pointer (some ⟨crb1, 0, none⟩)) rfl ?_
  have h1 := H.pick [2, 0, 1, 3, 4, 5, 6] 7 (by decide)
  simp only [pk, nth, pkA, pkB, pkC, pkD, pkE, pkF] at h1
  refine Cl.by (by kernel_rfl) (p_able hk.cl h1) ?_
  rintro _ w ⟨aa, ac, rfl, hr, H⟩
  refine ⟨_, rfl, ?_⟩
  replace H := H.pick [1, 2, 0, 3, 4, 5, 6] 7 (by decide)
  simp only [pk, nth, pkA, pkB, pkC, pkD, pkE, pkF] at H
  refine Cl.sl (by kernel_rfl) (p_of (L := ableF x.crew) hr (by omega) (hab (by assumption)) H) fun w H => ?_
  refine ⟨?_⟩
  refine ret1 (fn := Tryz.f104) (.int .i64 ((ableF x.crew).getD (z.toNat % (ableF x.crew).length) 0)) rfl (by rfl) ?_
  have H0 := H
  replace H := lm_shut (x := x) hl1 (by first | rfl | simp [turnL, noteL, backN_len]) hn H0
  have hc : (if z = -1 then (-1 : Int) else (ableF x.crew).getD (z.toNat % (ableF x.crew).length) 0) = ((ableF x.crew).getD (z.toNat % (ableF x.crew).length) 0) := by rw [if_neg (by assumption)]
  rw [hc]
  exact ⟨rfl, H⟩
 ·skip
  have h1 := eq_of_beq e1
  refine Cn.yes ?_
  refine ⟨?_⟩
  refine ret1 (fn := Tryz.f104) (.int .i64 (-1)) rfl (by rfl) ?_
  have H0 := H
  replace H := lm_shut (x := x) hl1 (by first | rfl | simp [turnL, noteL, backN_len]) hn H0
  have hc : (if z = -1 then (-1 : Int) else (ableF x.crew).getD (z.toNat % (ableF x.crew).length) 0) = -1 := by rw [if_pos (by assumption)]
  rw [hc]
  exact ⟨rfl, H⟩
theorem case_one (c : CaseM) : c.cells.all Value.oneCell' = true := rfl
theorem cases_one (L : List CaseM) : (L.flatMap CaseM.cells).all Value.oneCell' = true := by
 rw [List.all_flatMap, List.all_eq_true]
 exact fun c _ => case_one c
theorem p_atO {w : World} {F : List Piece} {c : Nat} {L : List One} {gk prn pln : Nat} {cst : Int} (hone : L[gk]? = some ⟨prn, pln, cst⟩) (H : SL w (CrewP c L :: F)) : Calls Tryz.prog 153 #[.pointer (some ⟨c, 0, none⟩), .int .i64 (gk : Int)] w fun e w' => e = .returned (.tuple #[.int .i64 (prn : Int), .int .i64 (pln : Int), .bool true]) ∧ SL w' (CrewP c L :: F) := by
 have h := p_at (gk : Int) H
 have e : atF L (gk : Int) = ((prn : Int), (pln : Int), true) := by
  unfold atF
  rw [if_pos (Int.natCast_nonneg _), Int.toNat_natCast, hone]
 rw [e] at h
 exact h
set_option maxHeartbeats 4000000 in
theorem p_op {w : World} {F : List Piece} {A : Piece} {lb : Nat} {sc : ScrM} {x : LmM} {t m : Int} {vl vd : Value} {n0 n1 n2 n3 n4 n5 n6 n7 : Int} {pb po pc0 gk prn pln : Nat} {cst : Int} {Y : List ProgX} (hn : x.name = [n0, n1, n2, n3, n4, n5, n6, n7]) (hps : sc.progs = progsM Y) (hpo : ProgsOk sc.progs) (hX : ScrA A pb po Y) (hone : x.crew[gk]? = some ⟨prn, pln, cst⟩) (hprn : prn < Y.length)
  (H : SL w (LmP lb sc ⟨t, m, .slice (some ⟨pb, po, none⟩) Y.length pc0, vl, vd⟩ x :: A :: F)) : Calls Tryz.prog 105 #[.pointer (some ⟨lb, 0, none⟩), .int .i64 (gk : Int)] w fun o w' => ∃ (ox : OpX) (C : Piece), ox.op = opL sc x gk ∧ Reader C 3 ox.ca ox.op.cases.length (ox.op.cases.flatMap CaseM.cells) ∧ o = .returned (.agg ox.cells.toArray) ∧
   SL w' (LmP lb sc ⟨t, m, .slice (some ⟨pb, po, none⟩) Y.length pc0, vl, vd⟩ x :: A :: C :: F) := by
 have hgk : gk < x.crew.length := (List.getElem?_eq_some_iff.1 hone).1
 obtain ⟨px, hY⟩ : ∃ px, Y[prn]? = some px := ⟨_, List.getElem?_eq_getElem hprn⟩
 have hpr : sc.progs[prn]? = some (px.ops.map (·.op)) := by rw [hps]; unfold progsM; rw [List.getElem?_map, hY]; rfl
 have hsome := hX.some_ prn px hY
 obtain ⟨ops, pa, pc⟩ := px
 dsimp only at hpr hsome
 have hml : ((ops.map (·.op)).length : Int) = (ops.length : Int) := by rw [List.length_map]
 have hob := lm_open (x := x) hn H
 obtain ⟨cb1, crb1, pn1, pc1, ala1, alc1, ta1, tc1, ps1, hl1, H⟩ := hob
 by_cases hpln : pln < ops.length
 ·obtain ⟨qb, qo, rfl⟩ := hsome (by omega)
  obtain ⟨ox, hox⟩ : ∃ ox, ops[pln]? = some ox := ⟨_, List.getElem?_eq_getElem hpln⟩
  have hcl : ox.op.cases.length ≤ 4 := (hpo _ (List.mem_of_getElem? hpr) ox.op (List.mem_map.2 ⟨ox, List.mem_of_getElem? hox, rfl⟩)).cl
  refine calls_den (args := [_, _]) Tryz.func105 rfl (Nat.le_of_ble_eq_true (by kernel_rfl)) (by kernel_rfl) ?_
  refine ⟨?_⟩
  refine Nw.as #[.int .i64 0, .int .i64 0, .int .i64 0, .slice none 0 0, .bool false] 66 rfl H fun b4 w H => ?_
  refine ⟨?_⟩
  refine H.ldi 1 rfl (v := .pointer (some ⟨crb1, 0, none⟩)) rfl ?_
  have h1 := H.pick [3, 0, 1, 2, 4, 5, 6, 7, 8] 9 (by decide)
  simp only [pk, nth, pkA, pkB, pkC, pkD, pkE, pkF] at h1
  refine Cl.sl (by kernel_rfl) (p_atO (L := x.crew) hone h1) fun w H => ?_
  replace H := H.pick [1, 2, 3, 0, 4, 5, 6, 7, 8] 9 (by decide)
  simp only [pk, nth, pkA, pkB, pkC, pkD, pkE, pkF] at H
  refine ⟨?_⟩
  refine H.ldi 1 rfl (v := .slice (some ⟨pb, po, none⟩) Y.length pc0) rfl ?_
  refine Ix.at prn 1 (by kernel_rfl) (rfl) (hprn) ?_
  refine H.ldPv 8 rfl hX prn hY (v := .slice (some ⟨qb, qo, none⟩) ops.length pc) rfl ?_
  refine BB.no (decide_eq_false (by omega)) ?_
  refine Cn.no ?_
  refine ⟨?_⟩
  refine H.ldi 1 rfl (v := .slice (some ⟨pb, po, none⟩) Y.length pc0) rfl ?_
  refine Ix.at prn 1 (by kernel_rfl) (rfl) (hprn) ?_
  refine H.ldPv 8 rfl hX prn hY (v := .slice (some ⟨qb, qo, none⟩) ops.length pc) rfl ?_
  refine Ix.at pln 5 (by kernel_rfl) (rfl) (hpln) ?_
  refine H.ldO 8 rfl hX prn hY rfl pln 0 hox (v := .int .i64 ox.op.kind) rfl ?_
  refine H.ldO 8 rfl hX prn hY rfl pln 1 hox (v := .int .i64 ox.op.a) rfl ?_
  refine H.ldO 8 rfl hX prn hY rfl pln 2 hox (v := .int .i64 ox.op.b) rfl ?_
  refine H.ldO 8 rfl hX prn hY rfl pln 3 hox (v := .slice ox.ca ox.op.cases.length ox.cc) rfl ?_
  refine H.ldO 8 rfl hX prn hY rfl pln 4 hox (v := .bool ox.op.dflt) rfl ?_
  refine Nw.as #[.int .i64 0, .int .i64 0, .int .i64 0, .slice none 0 0, .bool false] 66 rfl H fun b8 w H => ?_
  refine H.st0 (cs' := #[.int .i64 ox.op.kind, .int .i64 0, .int .i64 0, .slice none 0 0, .bool false]) rfl rfl rfl fun w H => ?_
  refine H.st0 (cs' := #[.int .i64 ox.op.kind, .int .i64 ox.op.a, .int .i64 0, .slice none 0 0, .bool false]) rfl rfl rfl fun w H => ?_
  refine H.st0 (cs' := #[.int .i64 ox.op.kind, .int .i64 ox.op.a, .int .i64 ox.op.b, .slice none 0 0, .bool false]) rfl rfl rfl fun w H => ?_
  refine H.st0 (cs' := #[.int .i64 ox.op.kind, .int .i64 ox.op.a, .int .i64 ox.op.b, .slice ox.ca ox.op.cases.length ox.cc, .bool false]) rfl rfl rfl fun w H => ?_
  refine H.st0 (cs' := #[.int .i64 ox.op.kind, .int .i64 ox.op.a, .int .i64 ox.op.b, .slice ox.ca ox.op.cases.length ox.cc, .bool ox.op.dflt]) rfl rfl rfl fun w H => ?_
  refine ⟨?_⟩
  refine H.ldi 0 rfl (v := .slice ox.ca ox.op.cases.length ox.cc) rfl ?_
  have h1 := H.pick [9, 0, 1, 2, 3, 4, 5, 6, 7, 8] 10 (by decide)
  simp only [pk, nth, pkA, pkB, pkC, pkD, pkE, pkF] at h1
  refine Cl.by (by kernel_rfl) (clone_case (hX.case prn _ hY pln ox hox).1 (cases_one _) (by omega) h1) ?_
  rintro _ w ⟨ka, kc, rfl, H⟩
  refine ⟨_, rfl, ?_⟩
  replace H := H.pick [0, 2, 3, 4, 5, 6, 7, 8, 9, 10, 1] 11 (by decide)
  simp only [pk, nth, pkA, pkB, pkC, pkD, pkE, pkF] at H
  refine H.st1 (cs' := #[.int .i64 ox.op.kind, .int .i64 ox.op.a, .int .i64 ox.op.b, .slice ka ox.op.cases.length kc, .bool ox.op.dflt]) rfl rfl rfl fun w H => ?_
  refine ⟨?_⟩
  refine H.ldi 1 rfl (v := .int .i64 ox.op.kind) rfl ?_
  refine H.ldi 1 rfl (v := .int .i64 ox.op.a) rfl ?_
  refine H.ldi 1 rfl (v := .int .i64 ox.op.b) rfl ?_
  refine H.ldi 1 rfl (v := .slice ka ox.op.cases.length kc) rfl ?_
  refine H.ldi 1 rfl (v := .bool ox.op.dflt) rfl ?_
  refine H.st2 (cs' := #[.int .i64 ox.op.kind, .int .i64 0, .int .i64 0, .slice none 0 0, .bool false]) rfl rfl rfl fun w H => ?_
  refine H.st2 (cs' := #[.int .i64 ox.op.kind, .int .i64 ox.op.a, .int .i64 0, .slice none 0 0, .bool false]) rfl rfl rfl fun w H => ?_
  refine H.st2 (cs' := #[.int .i64 ox.op.kind, .int .i64 ox.op.a, .int .i64 ox.op.b, .slice none 0 0, .bool false]) rfl rfl rfl fun w H => ?_
  refine H.st2 (cs' := #[.int .i64 ox.op.kind, .int .i64 ox.op.a, .int .i64 ox.op.b, .slice ka ox.op.cases.length kc, .bool false]) rfl rfl rfl fun w H => ?_
  refine H.st2 (cs' := #[.int .i64 ox.op.kind, .int .i64 ox.op.a, .int .i64 ox.op.b, .slice ka ox.op.cases.length kc, .bool ox.op.dflt]) rfl rfl rfl fun w H => ?_
  refine retC (fn := Tryz.f105) H 2 rfl rfl (by rfl) (by kernel_rfl) (by kernel_rfl) ?_
  have H0 := H.pick [3, 4, 5, 6, 7, 8, 9, 0, 1, 2, 10] 11 (by decide)
  simp only [pk, nth, pkA, pkB, pkC, pkD, pkE, pkF] at H0
  replace H := lm_shut (x := x) hl1 (by first | rfl | simp [turnL, noteL, backN_len]) hn H0
  exact ⟨⟨ox.op, ka, kc⟩, _, by unfold opL; simp only [Int.toNat_natCast, hone, hpr]; rw [if_neg (by simp only [List.length_map]; omega)]; simp [hox], Reader.slc, rfl, H.pick [0, 4, 1] 5 (by decide)⟩
 ·skip
  refine calls_den (args := [_, _]) Tryz.func105 rfl (Nat.le_of_ble_eq_true (by kernel_rfl)) (by kernel_rfl) ?_
  refine ⟨?_⟩
  refine Nw.as #[.int .i64 0, .int .i64 0, .int .i64 0, .slice none 0 0, .bool false] 66 rfl H fun b4 w H => ?_
  refine ⟨?_⟩
  refine H.ldi 1 rfl (v := .pointer (some ⟨crb1, 0, none⟩)) rfl ?_
  have h1 := H.pick [3, 0, 1, 2, 4, 5, 6, 7, 8] 9 (by decide)
  simp only [pk, nth, pkA, pkB, pkC, pkD, pkE, pkF] at h1
  refine Cl.sl (by kernel_rfl) (p_atO (L := x.crew) hone h1) fun w H => ?_
  replace H := H.pick [1, 2, 3, 0, 4, 5, 6, 7, 8] 9 (by decide)
  simp only [pk, nth, pkA, pkB, pkC, pkD, pkE, pkF] at H
  refine ⟨?_⟩
  refine H.ldi 1 rfl (v := .slice (some ⟨pb, po, none⟩) Y.length pc0) rfl ?_
  refine Ix.at prn 1 (by kernel_rfl) (rfl) (hprn) ?_
  refine H.ldPv 8 rfl hX prn hY (v := .slice pa ops.length pc) rfl ?_
  refine BB.yes (decide_eq_true (by omega)) ?_
  refine Cn.yes ?_
  refine ⟨?_⟩
  refine Mn.pure (.agg #[.int .i64 9, .int .i64 0, .int .i64 0, .slice none 0 0, .bool false]) (by kernel_rfl) ?_
  refine H.st0 (cs' := #[.int .i64 9, .int .i64 0, .int .i64 0, .slice none 0 0, .bool false]) rfl rfl rfl fun w H => ?_
  refine H.st0 (cs' := #[.int .i64 9, .int .i64 0, .int .i64 0, .slice none 0 0, .bool false]) rfl rfl rfl fun w H => ?_
  refine H.st0 (cs' := #[.int .i64 9, .int .i64 0, .int .i64 0, .slice none 0 0, .bool false]) rfl rfl rfl fun w H => ?_
  refine H.st0 (cs' := #[.int .i64 9, .int .i64 0, .int .i64 0, .slice none 0 0, .bool false]) rfl rfl rfl fun w H => ?_
  refine H.st0 (cs' := #[.int .i64 9, .int .i64 0, .int .i64 0, .slice none 0 0, .bool false]) rfl rfl rfl fun w H => ?_
  refine retC (fn := Tryz.f105) H 0 rfl rfl (by rfl) (by kernel_rfl) (by kernel_rfl) ?_
  replace H := SL.slcNil 154 3 H
  have H0 := H.pick [2, 3, 4, 5, 6, 7, 8, 0, 1, 9] 10 (by decide)
  simp only [pk, nth, pkA, pkB, pkC, pkD, pkE, pkF] at H0
  replace H := lm_shut (x := x) hl1 (by first | rfl | simp [turnL, noteL, backN_len]) hn H0
  exact ⟨⟨exitOp, none, 0⟩, _, by unfold opL; simp only [Int.toNat_natCast, hone, hpr]; rw [if_pos (by simp only [List.length_map]; omega)], Reader.slc, rfl, H.pick [0, 3, 1] 4 (by decide)⟩
end Go.Proofs.YtchkaaeoffmjnaaGreatDoor
namespace Go.Proofs.YtchkaaeoffmjnaaGreatDoor
set_option linter.unusedVariables false
set_option linter.unusedSimpArgs false
open Go.RowKit
set_option maxRecDepth 100000
theorem ablePos {L : List One} (h : overF L = 0) : 0 < (ableF L).length := by
 unfold overF at h
 split at h
 ·assumption
 ·split at h <;> cases h
def CopyP (nb cb : Nat) (z : Int) (pl dr : List Int) : Piece := exP fun (y : (Nat × Nat) × (Nat × Value)) => all [row nb #[.slice (some ⟨y.1.1, y.1.2, none⟩) (pl.length + 1) y.2.1, y.2.2] 160, Qu 3 1 (.slice (some ⟨y.1.1, y.1.2, none⟩) (pl.length + 1) y.2.1) (pl.length + 1) (ints (z :: pl)), row cb #[.slice (some ⟨y.1.1, y.1.2, none⟩) (pl.length + 1) y.2.1, y.2.2] 160, Qu 3 1 y.2.2 dr.length (ints dr)]
section
variable {w : World} {F : List Piece} {cb nb : Nat} {z : Int} {pl0 pl dr : List Int}
theorem cur_copyC (hp : pl0 = z :: pl) (H : SL w (CurP cb pl0 dr :: F)) : Calls Tryz.prog 103 #[.pointer (some ⟨cb, 0, none⟩)] w fun o w' => ∃ b, o = .returned (.pointer (some ⟨b, 0, none⟩)) ∧ SL w' (CopyP b cb z pl dr :: F) := by
 subst hp
 refine (cur_copy H).mono ?_
 rintro o w' ⟨b, rfl, g, off, c, v2, H⟩
 exact ⟨b, rfl, SL.exP.2 ⟨((g, off), (c, v2)), SL.all.2 H⟩⟩
theorem cur_nextC (hp : pl0 = z :: pl) (H : SL w (CopyP nb cb z pl dr :: F)) : Calls Tryz.prog 53 #[.pointer (some ⟨nb, 0, none⟩)] w fun o w' => o = .returned (.tuple #[.int .i64 z, .bool true]) ∧ SL w' (CurP cb pl0 dr :: F) := by
 subst hp
 obtain ⟨⟨⟨g, off⟩, ⟨c, v2⟩⟩, H⟩ := SL.exP.1 H
 exact (next_some (SL.all.1 H)).mono (fun o w' q => ⟨q.1, cur_uncopy q.2⟩)
theorem cur_nextD (hp : pl0 = z :: pl) (H : SL w (CurP cb pl0 dr :: F)) : Calls Tryz.prog 53 #[.pointer (some ⟨cb, 0, none⟩)] w fun o w' => o = .returned (.tuple #[.int .i64 z, .bool true]) ∧ SL w' (CurP cb pl dr :: F) := by
 subst hp
 exact cur_next H
end
theorem p_who {w : World} {F : List Piece} {np k lb : Nat} {sc : ScrM} {x : LmM} {t m : Int} {vp vl vd : Value} {n0 n1 n2 n3 n4 n5 n6 n7 : Int} (hn : x.name = [n0, n1, n2, n3, n4, n5, n6, n7]) (hk : Lk np k x) {z : Int} (hz : -1 ≤ z) (hwz : whoL sc x = if z = -1 then -1 else (ableF x.crew).getD (z.toNat % (ableF x.crew).length) 0) (hab : 0 < (ableF x.crew).length) (H : SL w (LmP lb sc ⟨t, m, vp, vl, vd⟩ x :: F)) : Calls Tryz.prog 104 #[.pointer (some ⟨lb, 0, none⟩), .int .i64 z] w fun o w' => o = .returned (.int .i64 (whoL sc x)) ∧ SL w' (LmP lb sc ⟨t, m, vp, vl, vd⟩ x :: F) := by
 rw [hwz]
 exact p_chosen hn hk z hz (fun _ => hab) H
theorem p_next_over {w : World} {F : List Piece} {np k lb : Nat} {sc : ScrM} {x : LmM} {t m : Int} {vp vl vd : Value} {n0 n1 n2 n3 n4 n5 n6 n7 : Int} (hn : x.name = [n0, n1, n2, n3, n4, n5, n6, n7]) (hk : Lk np k x) (hv : verL sc x ≠ 0) (H : SL w (LmP lb sc ⟨t, m, vp, vl, vd⟩ x :: F)) : Calls Tryz.prog 52 #[.pointer (some ⟨lb, 0, none⟩)] w fun o w' => o = .returned (.tuple #[.int .i64 0, .agg #[.int .i64 0, .int .i64 0, .int .i64 0, .slice none 0 0, .bool false], .bool false]) ∧ SL w' (LmP lb sc ⟨t, m, vp, vl, vd⟩ x :: F) := by
 have hob := lm_open (x := x) hn H
 obtain ⟨cb1, crb1, pn1, pc1, ala1, alc1, ta1, tc1, ps1, hl1, H⟩ := hob
 refine calls_den (args := [_]) Tryz.func52 rfl (Nat.le_of_ble_eq_true (by kernel_rfl)) (by kernel_rfl) ?_
 refine ⟨?_⟩
 refine Nw.as #[.int .i64 0, .int .i64 0, .int .i64 0, .slice none 0 0, .bool false] 66 rfl H fun b3 w H => ?_
 refine ⟨?_⟩
 refine BB.no rfl ?_
 have H0 := H.pick [1, 2, 3, 4, 5, 6, 7, 0] 8 (by decide)
 simp only [pk, nth, pkA, pkB, pkC, pkD, pkE, pkF] at H0
 replace H := lm_shut (x := x) hl1 (by first | rfl | simp [turnL, noteL, backN_len]) hn H0
 have h1 := H
 refine Cl.sl (by kernel_rfl) (p_verdict (x := x) hn hk h1) fun w H => ?_
 have hob := lm_open (x := x) hn H
 obtain ⟨cb2, crb2, pn2, pc2, ala2, alc2, ta2, tc2, ps2, hl2, H⟩ := hob
 refine BB.yes (bne_iff_ne.2 hv) ?_
 refine Cn.yes ?_
 refine ⟨?_⟩
 refine Mn.pure (.agg #[.int .i64 0, .int .i64 0, .int .i64 0, .slice none 0 0, .bool false]) (by kernel_rfl) ?_
 refine H.st7 (cs' := #[.int .i64 0, .int .i64 0, .int .i64 0, .slice none 0 0, .bool false]) rfl rfl rfl fun w H => ?_
 refine H.st7 (cs' := #[.int .i64 0, .int .i64 0, .int .i64 0, .slice none 0 0, .bool false]) rfl rfl rfl fun w H => ?_
 refine H.st7 (cs' := #[.int .i64 0, .int .i64 0, .int .i64 0, .slice none 0 0, .bool false]) rfl rfl rfl fun w H => ?_
 refine H.st7 (cs' := #[.int .i64 0, .int .i64 0, .int .i64 0, .slice none 0 0, .bool false]) rfl rfl rfl fun w H => ?_
 refine H.st7 (cs' := #[.int .i64 0, .int .i64 0, .int .i64 0, .slice none 0 0, .bool false]) rfl rfl rfl fun w H => ?_
 refine ret3C (fn := Tryz.f52) H 7 rfl rfl (by rfl) (by rfl) (by rfl) (by kernel_rfl) (by kernel_rfl) ?_
 have H0 := H
 replace H := lm_shut (x := x) hl2 (by first | rfl | simp [turnL, noteL, backN_len]) hn H0
 exact ⟨rfl, H.pick [0] 2 (by decide)⟩
theorem p_next_compact {w : World} {F : List Piece} {np k lb : Nat} {sc : ScrM} {x : LmM} {t m : Int} {vp vl vd : Value} {n0 n1 n2 n3 n4 n5 n6 n7 : Int} (hn : x.name = [n0, n1, n2, n3, n4, n5, n6, n7]) (hk : Lk np k x) (hv : verL sc x = 0) (hgp : ∀ z ∈ sc.plan, -1 ≤ z) (h0 : whoL sc x < 0) (H : SL w (LmP lb sc ⟨t, m, vp, vl, vd⟩ x :: F)) : Calls Tryz.prog 52 #[.pointer (some ⟨lb, 0, none⟩)] w fun o w' => o = .returned (.tuple #[.int .i64 (-1), .agg #[.int .i64 0, .int .i64 0, .int .i64 0, .slice none 0 0, .bool false], .bool true]) ∧ SL w' (LmP lb sc ⟨t, m, vp, vl, vd⟩ x :: F) := by
 obtain ⟨hpan, hvo, hvp⟩ := ver_zero hv
 obtain ⟨z, hz⟩ : ∃ z, sc.plan[x.p]? = some z := ⟨_, List.getElem?_eq_getElem hvp⟩
 have hz1 : -1 ≤ z := hgp z (List.mem_of_getElem? hz)
 have hdrop : sc.plan.drop x.p = z :: sc.plan.drop (x.p + 1) := by rw [List.drop_eq_getElem_cons hvp]; rw [List.getElem?_eq_getElem hvp] at hz; injection hz with hz; rw [hz]
 have hwz : whoL sc x = if z = -1 then -1 else (ableF x.crew).getD (z.toNat % (ableF x.crew).length) 0 := by
  unfold whoL
  rw [List.getD_eq_getElem?_getD, hz]
  rfl
 have hab : 0 < (ableF x.crew).length := ablePos hvo
 have hob := lm_open (x := x) hn H
 obtain ⟨cb1, crb1, pn1, pc1, ala1, alc1, ta1, tc1, ps1, hl1, H⟩ := hob
 refine calls_den (args := [_]) Tryz.func52 rfl (Nat.le_of_ble_eq_true (by kernel_rfl)) (by kernel_rfl) ?_
 refine ⟨?_⟩
 refine Nw.as #[.int .i64 0, .int .i64 0, .int .i64 0, .slice none 0 0, .bool false] 66 rfl H fun b3 w H => ?_
 refine ⟨?_⟩
 refine BB.no rfl ?_
 have H0 := H.pick [1, 2, 3, 4, 5, 6, 7, 0] 8 (by decide)
 simp only [pk, nth, pkA, pkB, pkC, pkD, pkE, pkF] at H0
 replace H := lm_shut (x := x) hl1 (by first | rfl | simp [turnL, noteL, backN_len]) hn H0
 have h1 := H
 refine Cl.sl (by kernel_rfl) (p_verdict (x := x) hn hk h1) fun w H => ?_
 have hob := lm_open (x := x) hn H
 obtain ⟨cb2, crb2, pn2, pc2, ala2, alc2, ta2, tc2, ps2, hl2, H⟩ := hob
 refine BB.no (bne_eq_false_iff_eq.2 hv) ?_
 refine Cn.no ?_
 refine ⟨?_⟩
 refine H.ldi 0 rfl (v := .pointer (some ⟨cb2, 0, none⟩)) rfl ?_
 have h1 := H.pick [1, 0, 2, 3, 4, 5, 6, 7] 8 (by decide)
 simp only [pk, nth, pkA, pkB, pkC, pkD, pkE, pkF] at h1
 refine Cl.by (by kernel_rfl) (cur_copyC hdrop h1) ?_
 rintro _ w ⟨nb, rfl, H⟩
 refine ⟨_, rfl, ?_⟩
 replace H := H.pick [1, 0, 2, 3, 4, 5, 6, 7] 8 (by decide)
 simp only [pk, nth, pkA, pkB, pkC, pkD, pkE, pkF] at H
 have h1 := H.pick [1, 0, 2, 3, 4, 5, 6, 7] 8 (by decide)
 simp only [pk, nth, pkA, pkB, pkC, pkD, pkE, pkF] at h1
 refine Cl.sl (by kernel_rfl) (cur_nextC hdrop h1) fun w H => ?_
 replace H := H.pick [1, 0, 2, 3, 4, 5, 6, 7] 8 (by decide)
 simp only [pk, nth, pkA, pkB, pkC, pkD, pkE, pkF] at H
 refine ⟨?_⟩
 have H0 := H
 replace H := lm_shut (x := x) hl2 (by first | rfl | simp [turnL, noteL, backN_len]) hn H0
 have h1 := H
 refine Cl.sl (by kernel_rfl) (p_who hn hk (z := z) hz1 hwz (by omega) h1) fun w H => ?_
 refine ⟨?_⟩
 refine BB.yes (decide_eq_true h0) ?_
 refine Cn.yes ?_
 refine ⟨?_⟩
 refine Mn.pure (.agg #[.int .i64 0, .int .i64 0, .int .i64 0, .slice none 0 0, .bool false]) (by kernel_rfl) ?_
 refine H.st1 (cs' := #[.int .i64 0, .int .i64 0, .int .i64 0, .slice none 0 0, .bool false]) rfl rfl rfl fun w H => ?_
 refine H.st1 (cs' := #[.int .i64 0, .int .i64 0, .int .i64 0, .slice none 0 0, .bool false]) rfl rfl rfl fun w H => ?_
 refine H.st1 (cs' := #[.int .i64 0, .int .i64 0, .int .i64 0, .slice none 0 0, .bool false]) rfl rfl rfl fun w H => ?_
 refine H.st1 (cs' := #[.int .i64 0, .int .i64 0, .int .i64 0, .slice none 0 0, .bool false]) rfl rfl rfl fun w H => ?_
 refine H.st1 (cs' := #[.int .i64 0, .int .i64 0, .int .i64 0, .slice none 0 0, .bool false]) rfl rfl rfl fun w H => ?_
 refine ret3C (fn := Tryz.f52) H 1 rfl rfl (by rfl) (by rfl) (by rfl) (by kernel_rfl) (by kernel_rfl) ?_
 exact ⟨rfl, H.pick [0] 2 (by decide)⟩
theorem p_next_does {w : World} {F : List Piece} {A : Piece} {np k lb : Nat} {sc : ScrM} {x : LmM} {t m : Int} {vl vd : Value} {n0 n1 n2 n3 n4 n5 n6 n7 : Int} {pb po pc0 : Nat} {Y : List ProgX} (hn : x.name = [n0, n1, n2, n3, n4, n5, n6, n7]) (hk : Lk np k x) (hps : sc.progs = progsM Y) (hpo : ProgsOk sc.progs) (hnp : Y.length = np) (hX : ScrA A pb po Y) (hv : verL sc x = 0) (hgp : ∀ z ∈ sc.plan, -1 ≤ z) (h0 : ¬ whoL sc x < 0) (H : SL w (LmP lb sc ⟨t, m, .slice (some ⟨pb, po, none⟩) Y.length pc0, vl, vd⟩ x :: A :: F)) : Calls Tryz.prog 52 #[.pointer (some ⟨lb, 0, none⟩)] w fun o w' => ∃ (ox : OpX) (C : Piece), ox.op = opL sc x (whoL sc x) ∧ Reader C 3 ox.ca ox.op.cases.length (ox.op.cases.flatMap CaseM.cells) ∧ o = .returned (.tuple #[.int .i64 (whoL sc x), .agg ox.cells.toArray, .bool true]) ∧ SL w' (LmP lb sc ⟨t, m, .slice (some ⟨pb, po, none⟩) Y.length pc0, vl, vd⟩ x :: A :: C :: F) := by
 obtain ⟨hpan, hvo, hvp⟩ := ver_zero hv
 obtain ⟨z, hz⟩ : ∃ z, sc.plan[x.p]? = some z := ⟨_, List.getElem?_eq_getElem hvp⟩
 have hz1 : -1 ≤ z := hgp z (List.mem_of_getElem? hz)
 have hdrop : sc.plan.drop x.p = z :: sc.plan.drop (x.p + 1) := by rw [List.drop_eq_getElem_cons hvp]; rw [List.getElem?_eq_getElem hvp] at hz; injection hz with hz; rw [hz]
 have hwz : whoL sc x = if z = -1 then -1 else (ableF x.crew).getD (z.toNat % (ableF x.crew).length) 0 := by
  unfold whoL
  rw [List.getD_eq_getElem?_getD, hz]
  rfl
 have hab : 0 < (ableF x.crew).length := ablePos hvo
 have hgw := who_in hv h0
 obtain ⟨gk, hgk⟩ := Int.eq_ofNat_of_zero_le hgw.1
 have hgl : gk < x.crew.length := by omega
 obtain ⟨⟨pr0, pl0, cst⟩, hone0⟩ : ∃ z, x.crew[gk]? = some z := ⟨_, List.getElem?_eq_getElem hgl⟩
 have hpr0 := hk.pr _ (List.mem_of_getElem? hone0)
 have hsm0 := hk.sm _ (List.mem_of_getElem? hone0)
 dsimp only at hpr0 hsm0
 obtain ⟨prn, rfl⟩ := Int.eq_ofNat_of_zero_le hpr0.1
 obtain ⟨pln, rfl⟩ := Int.eq_ofNat_of_zero_le hsm0.1
 have hone := hone0
 have hprn : prn < Y.length := by omega
 have hob := lm_open (x := x) hn H
 obtain ⟨cb1, crb1, pn1, pc1, ala1, alc1, ta1, tc1, ps1, hl1, H⟩ := hob
 refine calls_den (args := [_]) Tryz.func52 rfl (Nat.le_of_ble_eq_true (by kernel_rfl)) (by kernel_rfl) ?_
 refine ⟨?_⟩
 refine Nw.as #[.int .i64 0, .int .i64 0, .int .i64 0, .slice none 0 0, .bool false] 66 rfl H fun b3 w H => ?_
 refine ⟨?_⟩
 refine BB.no rfl ?_
 have H0 := H.pick [1, 2, 3, 4, 5, 6, 7, 0, 8] 9 (by decide)
 simp only [pk, nth, pkA, pkB, pkC, pkD, pkE, pkF] at H0
 replace H := lm_shut (x := x) hl1 (by first | rfl | simp [turnL, noteL, backN_len]) hn H0
 have h1 := H
 refine Cl.sl (by kernel_rfl) (p_verdict (x := x) hn hk h1) fun w H => ?_
 have hob := lm_open (x := x) hn H
 obtain ⟨cb2, crb2, pn2, pc2, ala2, alc2, ta2, tc2, ps2, hl2, H⟩ := hob
 refine BB.no (bne_eq_false_iff_eq.2 hv) ?_
 refine Cn.no ?_
 refine ⟨?_⟩
 refine H.ldi 0 rfl (v := .pointer (some ⟨cb2, 0, none⟩)) rfl ?_
 have h1 := H.pick [1, 0, 2, 3, 4, 5, 6, 7, 8] 9 (by decide)
 simp only [pk, nth, pkA, pkB, pkC, pkD, pkE, pkF] at h1
 refine Cl.by (by kernel_rfl) (cur_copyC hdrop h1) ?_
 rintro _ w ⟨nb, rfl, H⟩
 refine ⟨_, rfl, ?_⟩
 replace H := H.pick [1, 0, 2, 3, 4, 5, 6, 7, 8] 9 (by decide)
 simp only [pk, nth, pkA, pkB, pkC, pkD, pkE, pkF] at H
 have h1 := H.pick [1, 0, 2, 3, 4, 5, 6, 7, 8] 9 (by decide)
 simp only [pk, nth, pkA, pkB, pkC, pkD, pkE, pkF] at h1
 refine Cl.sl (by kernel_rfl) (cur_nextC hdrop h1) fun w H => ?_
 replace H := H.pick [1, 0, 2, 3, 4, 5, 6, 7, 8] 9 (by decide)
 simp only [pk, nth, pkA, pkB, pkC, pkD, pkE, pkF] at H
 refine ⟨?_⟩
 have H0 := H
 replace H := lm_shut (x := x) hl2 (by first | rfl | simp [turnL, noteL, backN_len]) hn H0
 have h1 := H
 refine Cl.sl (by kernel_rfl) (p_who hn hk (z := z) hz1 hwz (by omega) h1) fun w H => ?_
 refine ⟨?_⟩
 refine BB.no (decide_eq_false (by omega)) ?_
 refine Cn.no ?_
 refine ⟨?_⟩
 have h1 := H.pick [0, 2, 1] 3 (by decide)
 simp only [pk, nth, pkA, pkB, pkC, pkD, pkE, pkF] at h1
 have ho := p_op (w := w) hn hps hpo hX hone hprn h1
 rw [← hgk] at ho
 refine Cl.by (by kernel_rfl) ho ?_
 rintro _ w ⟨ox, C, hox, hC, rfl, H⟩
 refine ⟨_, rfl, ?_⟩
 refine H.st3 (cs' := #[.int .i64 ox.op.kind, .int .i64 0, .int .i64 0, .slice none 0 0, .bool false]) rfl rfl rfl fun w H => ?_
 refine H.st3 (cs' := #[.int .i64 ox.op.kind, .int .i64 ox.op.a, .int .i64 0, .slice none 0 0, .bool false]) rfl rfl rfl fun w H => ?_
 refine H.st3 (cs' := #[.int .i64 ox.op.kind, .int .i64 ox.op.a, .int .i64 ox.op.b, .slice none 0 0, .bool false]) rfl rfl rfl fun w H => ?_
 refine H.st3 (cs' := #[.int .i64 ox.op.kind, .int .i64 ox.op.a, .int .i64 ox.op.b, .slice ox.ca ox.op.cases.length ox.cc, .bool false]) rfl rfl rfl fun w H => ?_
 refine H.st3 (cs' := #[.int .i64 ox.op.kind, .int .i64 ox.op.a, .int .i64 ox.op.b, .slice ox.ca ox.op.cases.length ox.cc, .bool ox.op.dflt]) rfl rfl rfl fun w H => ?_
 refine ret3C (fn := Tryz.f52) H 3 rfl rfl (by rfl) (by rfl) (by rfl) (by kernel_rfl) (by kernel_rfl) ?_
 exact ⟨ox, C, hox, hC, rfl, H.pick [0, 1, 2] 4 (by decide)⟩
end Go.Proofs.YtchkaaeoffmjnaaGreatDoor
namespace Go.Proofs.YtchkaaeoffmjnaaGreatDoor
set_option linter.unusedVariables false
set_option linter.unusedSimpArgs false
open Go.RowKit
set_option maxRecDepth 100000
set_option maxHeartbeats 4000000 in
theorem p_step {w : World} {F : List Piece} {A : Piece} {np k lb : Nat} {sc : ScrM} {x : LmM} {t m : Int} {vl vd : Value} {n0 n1 n2 n3 n4 n5 n6 n7 : Int} {pb po pc0 : Nat} {Y : List ProgX} (hn : x.name = [n0, n1, n2, n3, n4, n5, n6, n7]) (hk : Lk np k x) (hkb : k ≤ 980000) (hps : sc.progs = progsM Y) (hpo : ProgsOk sc.progs) (hnp : Y.length = np) (hnp1 : 1 ≤ np) (hX : ScrA A pb po Y) (hgp : ∀ z ∈ sc.plan, -1 ≤ z) (hge : ∀ z ∈ sc.draws, 0 ≤ z) (H : SL w (LmP lb sc ⟨t, m, .slice (some ⟨pb, po, none⟩) Y.length pc0, vl, vd⟩ x :: A :: F)) :
  Calls Tryz.prog 23 #[.pointer (some ⟨lb, 0, none⟩)] w fun o w' => ∃ ka kc, o = .returned (.slice ka ((stepL sc x).tr.length - x.tr.length) kc) ∧ SL w' (Slc 53 8 (.slice ka ((stepL sc x).tr.length - x.tr.length) kc) ((stepL sc x).tr.length - x.tr.length) (((stepL sc x).tr.drop x.tr.length).flatMap Ev.cells) :: LmP lb sc ⟨t, m, .slice (some ⟨pb, po, none⟩) Y.length pc0, vl, vd⟩ (stepL sc x) :: A :: F) := by
 have hnp' : sc.progs.length = np := by rw [hps]; unfold progsM; rw [List.length_map]; exact hnp
 by_cases hv : verL sc x = 0
 ·obtain ⟨hpan, hvo, hvp⟩ := ver_zero hv
  obtain ⟨z, hz⟩ : ∃ z, sc.plan[x.p]? = some z := ⟨_, List.getElem?_eq_getElem hvp⟩
  have hdrop : sc.plan.drop x.p = z :: sc.plan.drop (x.p + 1) := by rw [List.drop_eq_getElem_cons hvp]; rw [List.getElem?_eq_getElem hvp] at hz; injection hz with hz; rw [hz]
  by_cases h0 : whoL sc x < 0
  ·skip
   have hob := lm_open (x := x) hn H
   obtain ⟨cb1, crb1, pn1, pc1, ala1, alc1, ta1, tc1, ps1, hl1, H⟩ := hob
   refine calls_scope (args := [_]) 0 Tryz.func23 rfl rfl (Nat.le_of_ble_eq_true (by kernel_rfl)) (by kernel_rfl) (by kernel_rfl) (by kernel_rfl) ?_
   refine ⟨?_⟩
   refine ⟨?_⟩
   have H0 := H
   replace H := lm_shut (x := x) hl1 (by first | rfl | simp [turnL, noteL, backN_len]) hn H0
   have h1 := H
   refine Cl.sl (by kernel_rfl) (p_next_compact hn hk hv hgp h0 h1) fun w H => ?_
   have hob := lm_open (x := x) hn H
   obtain ⟨cb2, crb2, pn2, pc2, ala2, alc2, ta2, tc2, ps2, hl2, H⟩ := hob
   refine Nw.as #[.int .i64 0, .int .i64 0, .int .i64 0, .slice none 0 0, .bool false] 66 rfl H fun b4 w H => ?_
   refine H.st0 (cs' := #[.int .i64 0, .int .i64 0, .int .i64 0, .slice none 0 0, .bool false]) rfl rfl rfl fun w H => ?_
   refine H.st0 (cs' := #[.int .i64 0, .int .i64 0, .int .i64 0, .slice none 0 0, .bool false]) rfl rfl rfl fun w H => ?_
   refine H.st0 (cs' := #[.int .i64 0, .int .i64 0, .int .i64 0, .slice none 0 0, .bool false]) rfl rfl rfl fun w H => ?_
   refine H.st0 (cs' := #[.int .i64 0, .int .i64 0, .int .i64 0, .slice none 0 0, .bool false]) rfl rfl rfl fun w H => ?_
   refine H.st0 (cs' := #[.int .i64 0, .int .i64 0, .int .i64 0, .slice none 0 0, .bool false]) rfl rfl rfl fun w H => ?_
   refine ⟨?_⟩
   refine BB.no rfl ?_
   refine Cn.no ?_
   refine ⟨?_⟩
   refine H.ldi 1 rfl (v := .pointer (some ⟨cb2, 0, none⟩)) rfl ?_
   have h1 := H.pick [2, 0, 1, 3, 4, 5, 6, 7, 8] 9 (by decide)
   simp only [pk, nth, pkA, pkB, pkC, pkD, pkE, pkF] at h1
   refine Cl.sl (by kernel_rfl) (cur_nextD hdrop h1) fun w H => ?_
   replace H := H.pick [1, 2, 0, 3, 4, 5, 6, 7, 8] 9 (by decide)
   simp only [pk, nth, pkA, pkB, pkC, pkD, pkE, pkF] at H
   refine ⟨?_⟩
   refine H.ldi 1 rfl (v := .slice ta2 x.tr.length tc2) rfl ?_
   refine ⟨?_⟩
   refine BB.yes rfl ?_
   refine Cn.yes ?_
   refine ⟨?_⟩
   refine Cl.sl (by kernel_rfl) (p_bare H 13 (-1)) fun w H => ?_
   have h1 := H.pick [1, 7, 0, 2, 3, 4, 5, 6, 8] 9 (by decide)
   simp only [pk, nth, pkA, pkB, pkC, pkD, pkE, pkF] at h1
   refine Cl.by (by kernel_rfl) (p_noteO (Nat.le_trans ((hk.pp (x.p + 1))).tr (by omega)) ⟨13, -1, -1, -1, -1, -1, false, false⟩ h1) ?_
   rintro _ w ⟨tn1, tk1, rfl, H⟩
   refine ⟨_, rfl, ?_⟩
   replace H := H.pick [2, 0, 3, 4, 5, 6, 7, 1, 8] 9 (by decide)
   simp only [pk, nth, pkA, pkB, pkC, pkD, pkE, pkF] at H
   refine ⟨rfl, ?_⟩
   refine ⟨?_⟩
   refine H.ldi 1 rfl (v := .slice tn1 ((noteL ({ x with p := x.p + 1 }) ⟨13, -1, -1, -1, -1, -1, false, false⟩).tr.length) tk1) rfl ?_
   refine Mn.cutS (lo := x.tr.length) H 7 rfl (.tmp 41) (.tmp 42) 22 (by rfl) (by kernel_rfl) (by kernel_rfl) (by rfl) (by rfl) (by show x.tr.length ≤ (x.tr ++ [_]).length; rw [List.length_append]; exact Nat.le_add_right _ _) fun sa1 sk1 hR1 => ?_
   have h1 := H.pick [7, 0, 1, 2, 3, 4, 5, 6, 8] 9 (by decide)
   simp only [pk, nth, pkA, pkB, pkC, pkD, pkE, pkF] at h1
   rw [evs_drop] at hR1
   refine Cl.by (by kernel_rfl) (clone_ev hR1 (evs_one _) (Nat.lt_of_le_of_lt (Nat.sub_le _ _) (Nat.lt_of_le_of_lt (((hk.pp (x.p + 1)).note ⟨13, -1, -1, -1, -1, -1, false, false⟩)).tr (by omega))) h1) ?_
   rintro _ w ⟨ka, kc, rfl, H⟩
   refine ⟨_, rfl, ?_⟩
   replace H := H.pick [0, 2, 3, 4, 5, 6, 7, 8, 1, 9] 10 (by decide)
   simp only [pk, nth, pkA, pkB, pkC, pkD, pkE, pkF] at H
   refine ret1 (fn := Tryz.f23) (.slice ka ((noteL ({ x with p := x.p + 1 }) ⟨13, -1, -1, -1, -1, -1, false, false⟩).tr.length - x.tr.length) kc) rfl (by rfl) ?_
   have H0 := H.pick [2, 3, 4, 5, 6, 7, 8, 0, 1, 9] 10 (by decide)
   simp only [pk, nth, pkA, pkB, pkC, pkD, pkE, pkF] at H0
   replace H := lm_shut (x := (noteL ({ x with p := x.p + 1 }) ⟨13, -1, -1, -1, -1, -1, false, false⟩)) hl2 (by first | rfl | simp [turnL, noteL, backN_len]) hn H0
   have hst : stepL sc x = (noteL ({ x with p := x.p + 1 }) ⟨13, -1, -1, -1, -1, -1, false, false⟩) := step_compact hv h0
   rw [hst]
   exact ⟨ka, kc, rfl, H.pick [1, 0, 3] 4 (by decide)⟩
  ·have hgw := who_in hv h0
   have hob := lm_open (x := x) hn H
   obtain ⟨cb1, crb1, pn1, pc1, ala1, alc1, ta1, tc1, ps1, hl1, H⟩ := hob
   refine calls_scope (args := [_]) 0 Tryz.func23 rfl rfl (Nat.le_of_ble_eq_true (by kernel_rfl)) (by kernel_rfl) (by kernel_rfl) (by kernel_rfl) ?_
   refine ⟨?_⟩
   refine ⟨?_⟩
   have H0 := H
   replace H := lm_shut (x := x) hl1 (by first | rfl | simp [turnL, noteL, backN_len]) hn H0
   have h1 := H
   refine Cl.by (by kernel_rfl) (p_next_does hn hk hps hpo hnp hX hv hgp h0 h1) ?_
   rintro _ w ⟨ox, C, hox, hC, rfl, H⟩
   refine ⟨_, rfl, ?_⟩
   have hob := lm_open (x := x) hn H
   obtain ⟨cb2, crb2, pn2, pc2, ala2, alc2, ta2, tc2, ps2, hl2, H⟩ := hob
   refine Nw.as #[.int .i64 0, .int .i64 0, .int .i64 0, .slice none 0 0, .bool false] 66 rfl H fun b4 w H => ?_
   refine H.st0 (cs' := #[.int .i64 ox.op.kind, .int .i64 0, .int .i64 0, .slice none 0 0, .bool false]) rfl rfl rfl fun w H => ?_
   refine H.st0 (cs' := #[.int .i64 ox.op.kind, .int .i64 ox.op.a, .int .i64 0, .slice none 0 0, .bool false]) rfl rfl rfl fun w H => ?_
   refine H.st0 (cs' := #[.int .i64 ox.op.kind, .int .i64 ox.op.a, .int .i64 ox.op.b, .slice none 0 0, .bool false]) rfl rfl rfl fun w H => ?_
   refine H.st0 (cs' := #[.int .i64 ox.op.kind, .int .i64 ox.op.a, .int .i64 ox.op.b, .slice ox.ca ox.op.cases.length ox.cc, .bool false]) rfl rfl rfl fun w H => ?_
   refine H.st0 (cs' := #[.int .i64 ox.op.kind, .int .i64 ox.op.a, .int .i64 ox.op.b, .slice ox.ca ox.op.cases.length ox.cc, .bool ox.op.dflt]) rfl rfl rfl fun w H => ?_
   refine ⟨?_⟩
   refine BB.no rfl ?_
   refine Cn.no ?_
   refine ⟨?_⟩
   refine H.ldi 1 rfl (v := .pointer (some ⟨cb2, 0, none⟩)) rfl ?_
   have h1 := H.pick [2, 0, 1, 3, 4, 5, 6, 7, 8, 9] 10 (by decide)
   simp only [pk, nth, pkA, pkB, pkC, pkD, pkE, pkF] at h1
   refine Cl.sl (by kernel_rfl) (cur_nextD hdrop h1) fun w H => ?_
   replace H := H.pick [1, 2, 0, 3, 4, 5, 6, 7, 8, 9] 10 (by decide)
   simp only [pk, nth, pkA, pkB, pkC, pkD, pkE, pkF] at H
   refine ⟨?_⟩
   refine H.ldi 1 rfl (v := .slice ta2 x.tr.length tc2) rfl ?_
   refine ⟨?_⟩
   refine BB.no (decide_eq_false (by omega)) ?_
   refine Cn.no ?_
   refine ⟨?_⟩
   refine H.ldi 0 rfl (v := .int .i64 ox.op.kind) rfl ?_
   refine H.ldi 0 rfl (v := .int .i64 ox.op.a) rfl ?_
   refine H.ldi 0 rfl (v := .int .i64 ox.op.b) rfl ?_
   refine H.ldi 0 rfl (v := .slice ox.ca ox.op.cases.length ox.cc) rfl ?_
   refine H.ldi 0 rfl (v := .bool ox.op.dflt) rfl ?_
   have H0 := H.pick [1, 2, 3, 4, 5, 6, 7, 0, 8, 9] 10 (by decide)
   simp only [pk, nth, pkA, pkB, pkC, pkD, pkE, pkF] at H0
   replace H := lm_shut (x := { x with p := x.p + 1 }) hl2 (by first | rfl | simp [turnL, noteL, backN_len]) hn H0
   have h1 := H.pick [0, 3, 1, 2] 4 (by decide)
   simp only [pk, nth, pkA, pkB, pkC, pkD, pkE, pkF] at h1
   have hop : OpOk np ox.op := by rw [hox, ← hnp']; exact opL_ok hpo (by omega) _ _
   refine Cl.by (by kernel_rfl) (p_does (x := { x with p := x.p + 1 }) hn (hk.pp (x.p + 1)) (by omega) hgw hge hC hop h1) ?_
   rintro _ w ⟨b, y0, rfl, hres, H⟩
   refine ⟨_, rfl, ?_⟩
   replace H := H.pick [0, 2, 3, 1] 4 (by decide)
   simp only [pk, nth, pkA, pkB, pkC, pkD, pkE, pkF] at H
   have hkD := (hk.pp (x.p + 1)).does (g := whoL sc x) hgw hop sc
   have hlen := pre_does_len sc { x with p := x.p + 1 } (whoL sc x) ox.op
   have hst : stepL sc x = doesL sc { x with p := x.p + 1 } (whoL sc x) ox.op := by rw [hox]; exact step_does hv h0
   refine BB.k ?_
   refine BB.vr fun q1 e1 => ?_
   cases q1
   ·skip
    have h1 : b = true := by simpa using e1
    subst h1
    refine Cn.no ?_
    rw [if_pos rfl] at hres
    rw [hres] at hkD hlen hst
    have hob := eight hkD.n8
    obtain ⟨n0, n1, n2, n3, n4, n5, n6, n7, hn9⟩ := hob
    have hob := lm_open (x := y0) hn9 H
    obtain ⟨cb3, crb3, pn3, pc3, ala3, alc3, ta3, tc3, ps3, hl3, H⟩ := hob
    refine ⟨?_⟩
    refine H.ldi 0 rfl (v := .slice ta3 y0.tr.length tc3) rfl ?_
    refine Mn.cutS (lo := x.tr.length) H 6 rfl (.tmp 41) (.tmp 42) 22 (by rfl) (by kernel_rfl) (by kernel_rfl) (by rfl) (by rfl) (hlen) fun sa2 sk2 hR2 => ?_
    have h1 := H.pick [6, 0, 1, 2, 3, 4, 5, 7, 8, 9] 10 (by decide)
    simp only [pk, nth, pkA, pkB, pkC, pkD, pkE, pkF] at h1
    rw [evs_drop] at hR2
    refine Cl.by (by kernel_rfl) (clone_ev hR2 (evs_one _) (Nat.lt_of_le_of_lt (Nat.sub_le _ _) (Nat.lt_of_le_of_lt (hkD).tr (by omega))) h1) ?_
    rintro _ w ⟨ka, kc, rfl, H⟩
    refine ⟨_, rfl, ?_⟩
    replace H := H.pick [0, 2, 3, 4, 5, 6, 7, 1, 8, 9, 10] 11 (by decide)
    simp only [pk, nth, pkA, pkB, pkC, pkD, pkE, pkF] at H
    refine ret1 (fn := Tryz.f23) (.slice ka (y0.tr.length - x.tr.length) kc) rfl (by rfl) ?_
    have H0 := H.pick [1, 2, 3, 4, 5, 6, 7, 0, 8, 9, 10] 11 (by decide)
    simp only [pk, nth, pkA, pkB, pkC, pkD, pkE, pkF] at H0
    replace H := lm_shut (x := y0) hl3 (by first | rfl | simp [turnL, noteL, backN_len]) hn9 H0
    rw [hst]
    exact ⟨ka, kc, rfl, H.pick [1, 0, 3] 5 (by decide)⟩
   ·skip
    have h1 : b = false := by simpa using e1
    subst h1
    refine Cn.yes ?_
    rw [if_neg Bool.false_ne_true] at hres
    rw [hres] at hkD hlen hst
    have hob := eight hkD.n8
    obtain ⟨n0, n1, n2, n3, n4, n5, n6, n7, hn9⟩ := hob
    have hob := lm_open (x := y0) hn9 H
    obtain ⟨cb4, crb4, pn4, pc4, ala4, alc4, ta4, tc4, ps4, hl4, H⟩ := hob
    refine ⟨?_⟩
    refine H.st0 (cs' := #[.int .i64 t, .int .i64 m, .slice (some ⟨pb, po, none⟩) Y.length pc0, vl, vd, .pointer (some ⟨cb4, 0, none⟩), .pointer (some ⟨crb4, 0, none⟩), .slice (some ⟨pn4, 0, none⟩) 8 pc4, .int .i64 n0, .int .i64 n1, .int .i64 n2, .int .i64 n3, .int .i64 n4, .int .i64 n5, .int .i64 n6, .int .i64 n7, .slice ala4 y0.M.length alc4, .slice ta4 y0.tr.length tc4, .bool true]) rfl rfl rfl fun w H => ?_
    refine ⟨?_⟩
    refine H.ldi 0 rfl (v := .slice ta4 y0.tr.length tc4) rfl ?_
    refine Mn.cutS (lo := x.tr.length) H 6 rfl (.tmp 41) (.tmp 42) 22 (by rfl) (by kernel_rfl) (by kernel_rfl) (by rfl) (by rfl) (hlen) fun sa3 sk3 hR3 => ?_
    have h1 := H.pick [6, 0, 1, 2, 3, 4, 5, 7, 8, 9] 10 (by decide)
    simp only [pk, nth, pkA, pkB, pkC, pkD, pkE, pkF] at h1
    rw [evs_drop] at hR3
    refine Cl.by (by kernel_rfl) (clone_ev hR3 (evs_one _) (Nat.lt_of_le_of_lt (Nat.sub_le _ _) (Nat.lt_of_le_of_lt (hkD).tr (by omega))) h1) ?_
    rintro _ w ⟨ka, kc, rfl, H⟩
    refine ⟨_, rfl, ?_⟩
    replace H := H.pick [0, 2, 3, 4, 5, 6, 7, 1, 8, 9, 10] 11 (by decide)
    simp only [pk, nth, pkA, pkB, pkC, pkD, pkE, pkF] at H
    refine ret1 (fn := Tryz.f23) (.slice ka (y0.tr.length - x.tr.length) kc) rfl (by rfl) ?_
    have H0 := H.pick [1, 2, 3, 4, 5, 6, 7, 0, 8, 9, 10] 11 (by decide)
    simp only [pk, nth, pkA, pkB, pkC, pkD, pkE, pkF] at H0
    replace H := lm_shut (x := { y0 with pan := true }) hl4 (by first | rfl | simp [turnL, noteL, backN_len]) hn9 H0
    rw [hst]
    exact ⟨ka, kc, rfl, H.pick [1, 0, 3] 5 (by decide)⟩
 ·skip
  have hob := lm_open (x := x) hn H
  obtain ⟨cb1, crb1, pn1, pc1, ala1, alc1, ta1, tc1, ps1, hl1, H⟩ := hob
  refine calls_scope (args := [_]) 0 Tryz.func23 rfl rfl (Nat.le_of_ble_eq_true (by kernel_rfl)) (by kernel_rfl) (by kernel_rfl) (by kernel_rfl) ?_
  refine ⟨?_⟩
  refine ⟨?_⟩
  have H0 := H
  replace H := lm_shut (x := x) hl1 (by first | rfl | simp [turnL, noteL, backN_len]) hn H0
  have h1 := H
  refine Cl.sl (by kernel_rfl) (p_next_over hn hk hv h1) fun w H => ?_
  have hob := lm_open (x := x) hn H
  obtain ⟨cb2, crb2, pn2, pc2, ala2, alc2, ta2, tc2, ps2, hl2, H⟩ := hob
  refine Nw.as #[.int .i64 0, .int .i64 0, .int .i64 0, .slice none 0 0, .bool false] 66 rfl H fun b4 w H => ?_
  refine H.st0 (cs' := #[.int .i64 0, .int .i64 0, .int .i64 0, .slice none 0 0, .bool false]) rfl rfl rfl fun w H => ?_
  refine H.st0 (cs' := #[.int .i64 0, .int .i64 0, .int .i64 0, .slice none 0 0, .bool false]) rfl rfl rfl fun w H => ?_
  refine H.st0 (cs' := #[.int .i64 0, .int .i64 0, .int .i64 0, .slice none 0 0, .bool false]) rfl rfl rfl fun w H => ?_
  refine H.st0 (cs' := #[.int .i64 0, .int .i64 0, .int .i64 0, .slice none 0 0, .bool false]) rfl rfl rfl fun w H => ?_
  refine H.st0 (cs' := #[.int .i64 0, .int .i64 0, .int .i64 0, .slice none 0 0, .bool false]) rfl rfl rfl fun w H => ?_
  refine ⟨?_⟩
  refine BB.yes rfl ?_
  refine Cn.yes ?_
  refine ⟨?_⟩
  refine ret1 (fn := Tryz.f23) (.slice none 0 0) rfl (by rfl) ?_
  have H0 := H.pick [1, 2, 3, 4, 5, 6, 7, 0, 8] 9 (by decide)
  simp only [pk, nth, pkA, pkB, pkC, pkD, pkE, pkF] at H0
  replace H := lm_shut (x := x) hl2 (by first | rfl | simp [turnL, noteL, backN_len]) hn H0
  have hst : stepL sc x = x := by unfold stepL; rw [if_pos hv]
  rw [hst, Nat.sub_self, List.drop_length]
  exact ⟨none, 0, rfl, SL.slcNil 53 8 (H.pick [0, 2] 3 (by decide))⟩
end Go.Proofs.YtchkaaeoffmjnaaGreatDoor
namespace Go.Proofs.YtchkaaeoffmjnaaGreatDoor
set_option linter.unusedVariables false
set_option linter.unusedSimpArgs false
open Go.RowKit
set_option maxRecDepth 100000
def belowB (n m : Int) : Bool := decide (0 ≤ n ∧ n < m)
theorem d_below {w : World} {F : List Piece} (n m : Int) (H : SL w F) : Calls Tryz.prog 92 #[.int .i64 n, .int .i64 m] w fun o w' => o = .returned (.bool (belowB n m)) ∧ SL w' F := by
 refine calls_den (args := [_, _]) Tryz.func92 rfl (Nat.le_of_ble_eq_true (by kernel_rfl)) (by kernel_rfl) ?_
 refine ⟨?_⟩
 refine ⟨?_⟩
 refine BB.vr fun q1 e1 => ?_
 cases q1
 ·skip
  have h1 := of_decide_eq_false e1
  refine ret1 (fn := Tryz.f92) (.bool false) rfl (by rfl) ?_
  have hc : belowB n m = (false) := by unfold belowB; first | (simp [*]; done) | (simp; omega)
  rw [hc]
  exact ⟨rfl, H⟩
 ·skip
  have h1 := of_decide_eq_true e1
  refine BB.k ?_
  refine ret1 (fn := Tryz.f92) (.bool (decide (n < m))) rfl (by rfl) ?_
  have hc : belowB n m = (decide (n < m)) := by unfold belowB; first | (simp [*]; done) | (simp; omega)
  rw [hc]
  exact ⟨rfl, H⟩
def mxF (c m : Int) : Int := if m > c then m else c
theorem Mn.most {P : Program} {w : World} {σ : Fr} {op : Oper} {K : Value → World → Prop} {t : TypeId} (x : Operand) (c : Int) {m : Int} (hop : op.op = .call { callee := .builtin .max, args := #[.const (.int .i64 c), x], argTypes := #[t, t] }) (hx : ev σ x = .int .i64 m) (k : K (.int .i64 (mxF c m)) w) : Mn P σ op w K := by
 refine Mn.by (v := .int .i64 (mxF c m)) (w' := w) ?_ k
 have e : ev σ (.const (.int .i64 c)) = .int .i64 c := rfl
 simp [execOp, hop, resolve, invoke, builtin, Builtin.max_, Builtin.max2, hx, e, Result.andThen, mxF]
def fitB (n m : Int) : Bool := belowB n (mxF 1 m)
theorem d_fits {w : World} {F : List Piece} (n m : Int) (H : SL w F) : Calls Tryz.prog 91 #[.int .i64 n, .int .i64 m] w fun o w' => o = .returned (.bool (fitB n m)) ∧ SL w' F := by
 refine calls_den (args := [_, _]) Tryz.func91 rfl (Nat.le_of_ble_eq_true (by kernel_rfl)) (by kernel_rfl) ?_
 refine ⟨?_⟩
 refine ⟨?_⟩
 refine Mn.most (.tmp 6) 1 (m := m) (by rfl) (by rfl) ?_
 refine Cl.sl (by kernel_rfl) (d_below n (mxF 1 m) H) fun w H => ?_
 refine BB.k ?_
 refine ret1 (fn := Tryz.f91) (.bool (belowB n (mxF 1 m))) rfl (by rfl) ?_
 exact ⟨rfl, H⟩
def limF (k np : Int) : Int × Int := if k = 1 then (np, 0) else if k = 2 then (8, 5) else if k = 4 then (8, 0) else if k = 5 then (8, 0) else if k = 3 then (8, 100) else if k = 7 then (8, 0) else if k = 8 then (8, 0) else (0, 0)
theorem d_limits {w : World} {F : List Piece} (k np : Int) (H : SL w F) : Calls Tryz.prog 90 #[.int .i64 k, .int .i64 np] w fun o w' => o = .returned (.tuple #[.int .i64 (limF k np).1, .int .i64 (limF k np).2]) ∧ SL w' F := by
 refine calls_den (args := [_, _]) Tryz.func90 rfl (Nat.le_of_ble_eq_true (by kernel_rfl)) (by kernel_rfl) ?_
 refine ⟨?_⟩
 refine ⟨?_⟩
 refine ⟨?_⟩
 refine ⟨?_⟩
 refine ⟨?_⟩
 refine ⟨?_⟩
 refine ⟨?_⟩
 refine ⟨?_⟩
 refine ⟨?_⟩
 refine BB.vr fun q1 e1 => ?_
 cases q1
 ·skip
  have h1 := beq_eq_false_iff_ne.1 e1
  refine Cn.no ?_
  refine ⟨?_⟩
  refine BB.vr fun q2 e2 => ?_
  cases q2
  ·skip
   have h2 := beq_eq_false_iff_ne.1 e2
   refine Cn.no ?_
   refine ⟨?_⟩
   refine BB.vr fun q3 e3 => ?_
   cases q3
   ·skip
    have h3 := beq_eq_false_iff_ne.1 e3
    refine Cn.no ?_
    refine ⟨?_⟩
    refine BB.vr fun q4 e4 => ?_
    cases q4
    ·skip
     have h4 := beq_eq_false_iff_ne.1 e4
     refine Cn.no ?_
     refine ⟨?_⟩
     refine BB.vr fun q5 e5 => ?_
     cases q5
     ·skip
      have h5 := beq_eq_false_iff_ne.1 e5
      refine Cn.no ?_
      refine ⟨?_⟩
      refine BB.vr fun q6 e6 => ?_
      cases q6
      ·skip
       have h6 := beq_eq_false_iff_ne.1 e6
       refine Cn.no ?_
       refine ⟨?_⟩
       refine BB.vr fun q7 e7 => ?_
       cases q7
       ·skip
        have h7 := beq_eq_false_iff_ne.1 e7
        refine Cn.no ?_
        refine ⟨?_⟩
        refine ret2 (fn := Tryz.f90) (.int .i64 0) (.int .i64 0) rfl (by rfl) (by rfl) ?_
        have hc : limF k np = (0, 0) := by unfold limF; simp [*]
        rw [hc]
        exact ⟨rfl, H⟩
       ·skip
        have h7 := eq_of_beq e7
        refine Cn.yes ?_
        refine ⟨?_⟩
        refine ⟨?_⟩
        refine ret2 (fn := Tryz.f90) (.int .i64 8) (.int .i64 0) rfl (by rfl) (by rfl) ?_
        have hc : limF k np = (8, 0) := by unfold limF; simp [*]
        rw [hc]
        exact ⟨rfl, H⟩
      ·skip
       have h6 := eq_of_beq e6
       refine Cn.yes ?_
       refine Cn.yes ?_
       refine ⟨?_⟩
       refine ⟨?_⟩
       refine ret2 (fn := Tryz.f90) (.int .i64 8) (.int .i64 0) rfl (by rfl) (by rfl) ?_
       have hc : limF k np = (8, 0) := by unfold limF; simp [*]
       rw [hc]
       exact ⟨rfl, H⟩
     ·skip
      have h5 := eq_of_beq e5
      refine Cn.yes ?_
      refine ⟨?_⟩
      refine ⟨?_⟩
      refine ret2 (fn := Tryz.f90) (.int .i64 8) (.int .i64 100) rfl (by rfl) (by rfl) ?_
      have hc : limF k np = (8, 100) := by unfold limF; simp [*]
      rw [hc]
      exact ⟨rfl, H⟩
    ·skip
     have h4 := eq_of_beq e4
     refine Cn.yes ?_
     refine ⟨?_⟩
     refine ⟨?_⟩
     refine ret2 (fn := Tryz.f90) (.int .i64 8) (.int .i64 0) rfl (by rfl) (by rfl) ?_
     have hc : limF k np = (8, 0) := by unfold limF; simp [*]
     rw [hc]
     exact ⟨rfl, H⟩
   ·skip
    have h3 := eq_of_beq e3
    refine Cn.yes ?_
    refine Cn.yes ?_
    refine ⟨?_⟩
    refine ⟨?_⟩
    refine ret2 (fn := Tryz.f90) (.int .i64 8) (.int .i64 0) rfl (by rfl) (by rfl) ?_
    have hc : limF k np = (8, 0) := by unfold limF; simp [*]
    rw [hc]
    exact ⟨rfl, H⟩
  ·skip
   have h2 := eq_of_beq e2
   refine Cn.yes ?_
   refine ⟨?_⟩
   refine ⟨?_⟩
   refine ⟨?_⟩
   refine ret2 (fn := Tryz.f90) (.int .i64 8) (.int .i64 5) rfl (by rfl) (by rfl) ?_
   have hc : limF k np = (8, 5) := by unfold limF; simp [*]
   rw [hc]
   exact ⟨rfl, H⟩
 ·skip
  have h1 := eq_of_beq e1
  refine Cn.yes ?_
  refine ⟨?_⟩
  refine ⟨?_⟩
  refine ret2 (fn := Tryz.f90) (.int .i64 np) (.int .i64 0) rfl (by rfl) (by rfl) ?_
  have hc : limF k np = (np, 0) := by unfold limF; simp [*]
  rw [hc]
  exact ⟨rfl, H⟩
end Go.Proofs.YtchkaaeoffmjnaaGreatDoor
