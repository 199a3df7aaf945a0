/- Texts of the proof. -/
import Derived.Test.YtoamjodmidbmbaaGreatDoorX04
import Derived.Test.YtoamjodmidbmbaaGreatDoorX01
import Derived.Maps.OwnOps
import Derived.Maps.OwnSet
import Derived.Maps.Views
import Derived.Laws.Tables
import Derived.Test.YtoamjodmidbmbaaGreatDoorX02
set_option linter.unusedVariables false
set_option linter.unusedSimpArgs false
namespace Go.Proofs.YtoamjodmidbmbaaGreatDoor
open Go.RowKit
section
variable {P : Program} {w : World} {L F : List Piece} {A B C D E G : Piece} {g o : Nat} {cs : Array Value} {t : TypeId} {v : Value} {K : Value → Prop}
theorem Ld.by {a : Addr} (h : w.cell? a = some v) (k : K v) : Ld w a K := ⟨⟨v, h, k⟩⟩
theorem SL.ldi (H : SL w L) (i : Nat) (hi : L[i]? = some (row g cs t)) (hv : cs[o]? = some v) (k : K v) : Ld w ⟨g, o, none⟩ K := ⟨⟨v, row_cell (H.at i hi) o hv, k⟩⟩
theorem LdC.by {S : World → Prop} {a : Addr} (h : ∀ w, S w → w.cell? a = some v) (k : K v) : LdC S a K := ⟨⟨v, h, k⟩⟩
theorem LdC.i (i : Nat) (hi : L[i]? = some (row g cs t)) (hv : cs[o]? = some v) (k : K v) : LdC (fun w => SL w L) ⟨g, o, none⟩ K := ⟨⟨v, fun w H => row_cell (SL.at H i hi) o hv, k⟩⟩
theorem LdC.l0 (hv : cs[o]? = some v) (k : K v) : LdC (fun w => SL w (row g cs t :: F)) ⟨g, o, none⟩ K := LdC.i 0 rfl hv k
theorem LdC.l1 (hv : cs[o]? = some v) (k : K v) : LdC (fun w => SL w (A :: row g cs t :: F)) ⟨g, o, none⟩ K := LdC.i 1 rfl hv k
theorem LdC.l2 (hv : cs[o]? = some v) (k : K v) : LdC (fun w => SL w (A :: B :: row g cs t :: F)) ⟨g, o, none⟩ K := LdC.i 2 rfl hv k
theorem LdC.l3 (hv : cs[o]? = some v) (k : K v) : LdC (fun w => SL w (A :: B :: C :: row g cs t :: F)) ⟨g, o, none⟩ K := LdC.i 3 rfl hv k
theorem SLs.up7 {A0 A1 A2 A3 A4 A5 A6 Z : Piece} {S} (h : SLs w S (A0 :: A1 :: A2 :: A3 :: A4 :: A5 :: A6 :: Z :: F)) : SLs w S (Z :: A0 :: A1 :: A2 :: A3 :: A4 :: A5 :: A6 :: F) := (SLs.congr (fun _ => SLs.up6) h).swap
theorem SL.up7 {A0 A1 A2 A3 A4 A5 A6 Z : Piece} (h : SL w (A0 :: A1 :: A2 :: A3 :: A4 :: A5 :: A6 :: Z :: F)) : SL w (Z :: A0 :: A1 :: A2 :: A3 :: A4 :: A5 :: A6 :: F) := SLs.up7 h
theorem SLs.up8 {A0 A1 A2 A3 A4 A5 A6 A7 Z : Piece} {S} (h : SLs w S (A0 :: A1 :: A2 :: A3 :: A4 :: A5 :: A6 :: A7 :: Z :: F)) : SLs w S (Z :: A0 :: A1 :: A2 :: A3 :: A4 :: A5 :: A6 :: A7 :: F) := (SLs.congr (fun _ => SLs.up7) h).swap
theorem SL.up8 {A0 A1 A2 A3 A4 A5 A6 A7 Z : Piece} (h : SL w (A0 :: A1 :: A2 :: A3 :: A4 :: A5 :: A6 :: A7 :: Z :: F)) : SL w (Z :: A0 :: A1 :: A2 :: A3 :: A4 :: A5 :: A6 :: A7 :: F) := SLs.up8 h
theorem SLs.up9 {A0 A1 A2 A3 A4 A5 A6 A7 A8 Z : Piece} {S} (h : SLs w S (A0 :: A1 :: A2 :: A3 :: A4 :: A5 :: A6 :: A7 :: A8 :: Z :: F)) : SLs w S (Z :: A0 :: A1 :: A2 :: A3 :: A4 :: A5 :: A6 :: A7 :: A8 :: F) := (SLs.congr (fun _ => SLs.up8) h).swap
theorem SL.up9 {A0 A1 A2 A3 A4 A5 A6 A7 A8 Z : Piece} (h : SL w (A0 :: A1 :: A2 :: A3 :: A4 :: A5 :: A6 :: A7 :: A8 :: Z :: F)) : SL w (Z :: A0 :: A1 :: A2 :: A3 :: A4 :: A5 :: A6 :: A7 :: A8 :: F) := SLs.up9 h
theorem SLs.dn5 {A0 A1 A2 A3 A4 Z : Piece} {S} (h : SLs w S (Z :: A0 :: A1 :: A2 :: A3 :: A4 :: F)) : SLs w S (A0 :: A1 :: A2 :: A3 :: A4 :: Z :: F) := SLs.congr (fun _ => SLs.dn4) h.swap
theorem SL.dn5 {A0 A1 A2 A3 A4 Z : Piece} (h : SL w (Z :: A0 :: A1 :: A2 :: A3 :: A4 :: F)) : SL w (A0 :: A1 :: A2 :: A3 :: A4 :: Z :: F) := SLs.dn5 h
theorem SLs.dn6 {A0 A1 A2 A3 A4 A5 Z : Piece} {S} (h : SLs w S (Z :: A0 :: A1 :: A2 :: A3 :: A4 :: A5 :: F)) : SLs w S (A0 :: A1 :: A2 :: A3 :: A4 :: A5 :: Z :: F) := SLs.congr (fun _ => SLs.dn5) h.swap
theorem SL.dn6 {A0 A1 A2 A3 A4 A5 Z : Piece} (h : SL w (Z :: A0 :: A1 :: A2 :: A3 :: A4 :: A5 :: F)) : SL w (A0 :: A1 :: A2 :: A3 :: A4 :: A5 :: Z :: F) := SLs.dn6 h
theorem SLs.dn7 {A0 A1 A2 A3 A4 A5 A6 Z : Piece} {S} (h : SLs w S (Z :: A0 :: A1 :: A2 :: A3 :: A4 :: A5 :: A6 :: F)) : SLs w S (A0 :: A1 :: A2 :: A3 :: A4 :: A5 :: A6 :: Z :: F) := SLs.congr (fun _ => SLs.dn6) h.swap
theorem SL.dn7 {A0 A1 A2 A3 A4 A5 A6 Z : Piece} (h : SL w (Z :: A0 :: A1 :: A2 :: A3 :: A4 :: A5 :: A6 :: F)) : SL w (A0 :: A1 :: A2 :: A3 :: A4 :: A5 :: A6 :: Z :: F) := SLs.dn7 h
theorem SLs.dn8 {A0 A1 A2 A3 A4 A5 A6 A7 Z : Piece} {S} (h : SLs w S (Z :: A0 :: A1 :: A2 :: A3 :: A4 :: A5 :: A6 :: A7 :: F)) : SLs w S (A0 :: A1 :: A2 :: A3 :: A4 :: A5 :: A6 :: A7 :: Z :: F) := SLs.congr (fun _ => SLs.dn7) h.swap
theorem SL.dn8 {A0 A1 A2 A3 A4 A5 A6 A7 Z : Piece} (h : SL w (Z :: A0 :: A1 :: A2 :: A3 :: A4 :: A5 :: A6 :: A7 :: F)) : SL w (A0 :: A1 :: A2 :: A3 :: A4 :: A5 :: A6 :: A7 :: Z :: F) := SLs.dn8 h
theorem SLs.dn9 {A0 A1 A2 A3 A4 A5 A6 A7 A8 Z : Piece} {S} (h : SLs w S (Z :: A0 :: A1 :: A2 :: A3 :: A4 :: A5 :: A6 :: A7 :: A8 :: F)) : SLs w S (A0 :: A1 :: A2 :: A3 :: A4 :: A5 :: A6 :: A7 :: A8 :: Z :: F) := SLs.congr (fun _ => SLs.dn8) h.swap
theorem SL.dn9 {A0 A1 A2 A3 A4 A5 A6 A7 A8 Z : Piece} (h : SL w (Z :: A0 :: A1 :: A2 :: A3 :: A4 :: A5 :: A6 :: A7 :: A8 :: F)) : SL w (A0 :: A1 :: A2 :: A3 :: A4 :: A5 :: A6 :: A7 :: A8 :: Z :: F) := SLs.dn9 h
theorem Nw.by {K : Nat → World → Prop} {ob : Obj} (H : SL w L) (k : ∀ b w', SL w' (blk b ob :: L) → K b w') : Nw w ob K := ⟨k _ _ (H.alloc ob)⟩
theorem SL.sti {K : World → Prop} (H : SL w L) (i : Nat) (hi : L[i]? = some (row g cs t)) (ho : o < cs.size) (h1 : v.oneCell' = true) (k : K (w.setCell ⟨g, o, none⟩ v)) : St w ⟨g, o, none⟩ v K :=
 ⟨⟨⟨cs[o], row_cell (H.at i hi) o (by simp [ho])⟩, row_free (H.at i hi) o, h1, k⟩⟩
theorem Nw.as {K : Nat → World → Prop} {ob : Obj} (cs : Array Value) (t : Nat) (h : ob = .cells cs t (0, 0)) (H : SL w L) (k : ∀ b w', SL w' (row b cs t :: L) → K b w') : Nw w ob K := by
 subst h
 exact Nw.by H k
theorem SL.st0 {K : World → Prop} {cs' : Array Value} (H : SL w (row g cs t :: F)) (hc : cs.setIfInBounds o v = cs') (ho : Nat.blt o cs.size = true) (h1 : v.oneCell' = true) (k : ∀ w', SL w' (row g cs' t :: F) → K w') : St w ⟨g, o, none⟩ v K :=
 H.sti 0 rfl (by simpa [Nat.blt_eq] using ho) h1 (k _ (hc ▸ (H.set o v)))
theorem SL.st1 {A0 : Piece} {K : World → Prop} {cs' : Array Value} (H : SL w (A0 :: row g cs t :: F)) (hc : cs.setIfInBounds o v = cs') (ho : Nat.blt o cs.size = true) (h1 : v.oneCell' = true) (k : ∀ w', SL w' (A0 :: row g cs' t :: F) → K w') : St w ⟨g, o, none⟩ v K :=
 H.sti 1 rfl (by simpa [Nat.blt_eq] using ho) h1 (k _ (hc ▸ (H.up1.set o v).dn1))
theorem SL.st2 {A0 A1 : Piece} {K : World → Prop} {cs' : Array Value} (H : SL w (A0 :: A1 :: row g cs t :: F)) (hc : cs.setIfInBounds o v = cs') (ho : Nat.blt o cs.size = true) (h1 : v.oneCell' = true) (k : ∀ w', SL w' (A0 :: A1 :: row g cs' t :: F) → K w') : St w ⟨g, o, none⟩ v K :=
 H.sti 2 rfl (by simpa [Nat.blt_eq] using ho) h1 (k _ (hc ▸ (H.up2.set o v).dn2))
theorem SL.st3 {A0 A1 A2 : Piece} {K : World → Prop} {cs' : Array Value} (H : SL w (A0 :: A1 :: A2 :: row g cs t :: F)) (hc : cs.setIfInBounds o v = cs') (ho : Nat.blt o cs.size = true) (h1 : v.oneCell' = true) (k : ∀ w', SL w' (A0 :: A1 :: A2 :: row g cs' t :: F) → K w') : St w ⟨g, o, none⟩ v K :=
 H.sti 3 rfl (by simpa [Nat.blt_eq] using ho) h1 (k _ (hc ▸ (H.up3.set o v).dn3))
theorem SL.st4 {A0 A1 A2 A3 : Piece} {K : World → Prop} {cs' : Array Value} (H : SL w (A0 :: A1 :: A2 :: A3 :: row g cs t :: F)) (hc : cs.setIfInBounds o v = cs') (ho : Nat.blt o cs.size = true) (h1 : v.oneCell' = true) (k : ∀ w', SL w' (A0 :: A1 :: A2 :: A3 :: row g cs' t :: F) → K w') : St w ⟨g, o, none⟩ v K :=
 H.sti 4 rfl (by simpa [Nat.blt_eq] using ho) h1 (k _ (hc ▸ (H.up4.set o v).dn4))
theorem SL.st5 {A0 A1 A2 A3 A4 : Piece} {K : World → Prop} {cs' : Array Value} (H : SL w (A0 :: A1 :: A2 :: A3 :: A4 :: row g cs t :: F)) (hc : cs.setIfInBounds o v = cs') (ho : Nat.blt o cs.size = true) (h1 : v.oneCell' = true) (k : ∀ w', SL w' (A0 :: A1 :: A2 :: A3 :: A4 :: row g cs' t :: F) → K w') : St w ⟨g, o, none⟩ v K :=
 H.sti 5 rfl (by simpa [Nat.blt_eq] using ho) h1 (k _ (hc ▸ (H.up5.set o v).dn5))
theorem SL.st6 {A0 A1 A2 A3 A4 A5 : Piece} {K : World → Prop} {cs' : Array Value} (H : SL w (A0 :: A1 :: A2 :: A3 :: A4 :: A5 :: row g cs t :: F)) (hc : cs.setIfInBounds o v = cs') (ho : Nat.blt o cs.size = true) (h1 : v.oneCell' = true) (k : ∀ w', SL w' (A0 :: A1 :: A2 :: A3 :: A4 :: A5 :: row g cs' t :: F) → K w') : St w ⟨g, o, none⟩ v K :=
 H.sti 6 rfl (by simpa [Nat.blt_eq] using ho) h1 (k _ (hc ▸ (H.up6.set o v).dn6))
theorem SL.st7 {A0 A1 A2 A3 A4 A5 A6 : Piece} {K : World → Prop} {cs' : Array Value} (H : SL w (A0 :: A1 :: A2 :: A3 :: A4 :: A5 :: A6 :: row g cs t :: F)) (hc : cs.setIfInBounds o v = cs') (ho : Nat.blt o cs.size = true) (h1 : v.oneCell' = true) (k : ∀ w', SL w' (A0 :: A1 :: A2 :: A3 :: A4 :: A5 :: A6 :: row g cs' t :: F) → K w') : St w ⟨g, o, none⟩ v K :=
 H.sti 7 rfl (by simpa [Nat.blt_eq] using ho) h1 (k _ (hc ▸ (H.up7.set o v).dn7))
theorem SL.st9 {A0 A1 A2 A3 A4 A5 A6 A7 A8 : Piece} {K : World → Prop} {cs' : Array Value} (H : SL w (A0 :: A1 :: A2 :: A3 :: A4 :: A5 :: A6 :: A7 :: A8 :: row g cs t :: F)) (hc : cs.setIfInBounds o v = cs') (ho : Nat.blt o cs.size = true) (h1 : v.oneCell' = true) (k : ∀ w', SL w' (A0 :: A1 :: A2 :: A3 :: A4 :: A5 :: A6 :: A7 :: A8 :: row g cs' t :: F) → K w') : St w ⟨g, o, none⟩ v K :=
 H.sti 9 rfl (by simpa [Nat.blt_eq] using ho) h1 (k _ (hc ▸ (H.up9.set o v).dn9))
theorem BB.k {b : Bool} {K : Bool → Prop} (k : K b) : BB b K := ⟨k⟩
theorem BB.yes {b : Bool} {K : Bool → Prop} (h : b = true) (k : K true) : BB b K := by rw [h]; exact ⟨k⟩
theorem BB.no {b : Bool} {K : Bool → Prop} (h : b = false) (k : K false) : BB b K := by rw [h]; exact ⟨k⟩
theorem BB.s {b : Bool} {K : Bool → Prop} (h : b = true → K true) (k : b = false → K false) : BB b K := by
 cases b
 ·exact ⟨k rfl⟩
 ·exact ⟨h rfl⟩
theorem BB.vr {b : Bool} {K : Bool → Prop} (h : ∀ q, b = q → K q) : BB b K := ⟨h b rfl⟩
theorem BB.d {p : Prop} [Decidable p] {K : Bool → Prop} (h : p → K true) (k : ¬ p → K false) : BB (decide p) K := BB.s (fun e => h (of_decide_eq_true e)) (fun e => k (of_decide_eq_false e))
theorem BB.e {a b : Int} {K : Bool → Prop} (h : a = b → K true) (k : a ≠ b → K false) : BB (a == b) K := BB.s (fun e => h (eq_of_beq e)) (fun e => k (beq_eq_false_iff_ne.1 e))
theorem BB.n {a b : Int} {K : Bool → Prop} (h : a ≠ b → K true) (k : a = b → K false) : BB (a != b) K := BB.s (fun e => h (bne_iff_ne.1 e)) (fun e => k (by simpa using e))
theorem IW.k {n : Int} {K : Int → Prop} (k : K n) : IW n K := ⟨k⟩
theorem IW.by {n m : Int} {K : Int → Prop} (h : n = m) (k : K m) : IW n K := by rw [h]; exact ⟨k⟩
theorem wrap_id {n : Int} (h0 : -9223372036854775808 ≤ n) (h1 : n ≤ 9223372036854775807) : IntKind.i64.wrap n = n := by
 unfold IntKind.wrap
 simp [IntKind.signed, IntKind.bits]
 omega
theorem IW.z {K : Int → Prop} (m : Int) (k : K m) (h0 : -9223372036854775808 ≤ m := by omega) (h1 : m ≤ 9223372036854775807 := by omega) : IW (IntKind.i64.wrap m) K := IW.by (wrap_id h0 h1) k
theorem IW.i {K : Int → Prop} (a : Nat) (k : K ((a : Int) + 1)) (h : (a : Int) + 1 ≤ 9223372036854775807 := by omega) : IW (IntKind.i64.wrap ((a : Int) + 1)) K := IW.z _ k (by omega) h
theorem BB.yd {p : Prop} [Decidable p] {K : Bool → Prop} (k : K true) (h : p := by omega) : BB (decide p) K := BB.yes (decide_eq_true h) k
theorem BB.nd {p : Prop} [Decidable p] {K : Bool → Prop} (k : K false) (h : ¬ p := by omega) : BB (decide p) K := BB.no (decide_eq_false h) k
theorem neq_of {a b : Int} (h : (a == b) = false) : a ≠ b := beq_eq_false_iff_ne.1 h
theorem get_of {α : Type} {l : List α} {i : Nat} (h : i < l.length) : l[i]? = some l[i] := List.getElem?_eq_getElem h
def ev0C : Array Value := #[.int .i64 0, .int .i64 0, .int .i64 0, .int .i64 0, .int .i64 0, .int .i64 0, .bool false, .bool false]
theorem Cn.yes {n : Nat} {t : Operand} {a b : Code} {σ : Fr} {K : Fr → World → Prop} {X : Nat → Fr → World → Prop} {R : Fr → World → Prop} {A B : Prop} (h : A) : CdX P n t a b σ w K X R (Cn (.bool true) A B) := ⟨⟨⟨true, rfl, fun _ => h, fun e => Bool.noConfusion e⟩⟩⟩
theorem Cn.no {n : Nat} {t : Operand} {a b : Code} {σ : Fr} {K : Fr → World → Prop} {X : Nat → Fr → World → Prop} {R : Fr → World → Prop} {A B : Prop} (h : B) : CdX P n t a b σ w K X R (Cn (.bool false) A B) := ⟨⟨⟨false, rfl, fun e => Bool.noConfusion e, fun _ => h⟩⟩⟩
theorem Cl.by {f : FuncId} {args : Array Value} {K : Value → World → Prop} (he : okEnter P f = true) {R : Ending → World → Prop} (h : Calls P f args w R) (k : ∀ e w', R e w' → ∃ v, e = .returned v ∧ K v w') : Cl P f args w K :=
 ⟨⟨he, h.mono k⟩⟩
theorem Cl.sl {f : FuncId} {args : Array Value} {K : Value → World → Prop} (he : okEnter P f = true) {M : List Piece} (h : Calls P f args w fun e w' => e = .returned v ∧ SL w' M) (k : ∀ w', SL w' M → K v w') : Cl P f args w K :=
 ⟨⟨he, h.mono fun e w' q => ⟨v, q.1, k w' q.2⟩⟩⟩
theorem Cl.b {f : FuncId} {args : Array Value} {K : Value → World → Prop} {R : Ending → World → Prop} (h : Calls P f args w R) (k : ∀ e w', R e w' → ∃ v, e = .returned v ∧ K v w') (he : okEnter P f = true := by kernel_rfl) : Cl P f args w K := Cl.by he h k
theorem Cl.s {f : FuncId} {args : Array Value} {K : Value → World → Prop} {M : List Piece} (h : Calls P f args w fun e w' => e = .returned v ∧ SL w' M) (k : ∀ w', SL w' M → K v w') (he : okEnter P f = true := by kernel_rfl) : Cl P f args w K := Cl.sl he h k
theorem calls_d {f : FuncId} {fn : Func} {c : Code} {args : List Value} {R : Ending → World → Prop} (hf : P.funcs[f]? = some fn) (hb : fn.body = some c) (h : den P fn.ntmps c (frame0 args) w (RetOf P fn R) (fun _ _ _ => False) (RetOf P fn R)) (hn : args.length ≤ fn.ntmps := by exact Nat.le_of_ble_eq_true (by kernel_rfl)) (hc : fine fn.ntmps c = true := by kernel_rfl) : Calls P f args.toArray w R := calls_den hf hb hn hc h
theorem Ix.by {e : TypeId} {a : Addr} {n : Nat} {i : Int} (j sz : Nat) (hs : (P.info? e).map (·.size) = some sz) (hi : i = (j : Int)) (hj : j < n) (k : K (.pointer (some (a.add (j * sz))))) : Ix P e a n i K := ⟨⟨j, sz, hi, hj, hs, k⟩⟩
theorem Mn.by {σ : Fr} {op : Oper} {K : Value → World → Prop} {v : Value} {w' : World} (h : (execOp (ev σ) op).run P w = .ok (.value v) w') (k : K v w') : Mn P σ op w K := ⟨⟨v, w', .inl h, k⟩⟩
theorem ret1 {fn : Func} {τ : Nat} {σ : Fr} {R : Ending → World → Prop} (v : Value) (hr : fn.results = #[.tmp τ]) (hv : σ τ = v) (h : R (.returned v) w) : RetOf P fn R σ w :=
 ⟨⟨v, fun a ha => by rw [results_tmp hr, ha, hv], h⟩⟩
theorem ret2 {fn : Func} {τ υ : Nat} {σ : Fr} {R : Ending → World → Prop} (v u : Value) (hr : fn.results = #[.tmp τ, .tmp υ]) (hv : σ τ = v) (hu : σ υ = u) (h : R (.returned (.tuple #[v, u])) w) : RetOf P fn R σ w :=
 ⟨⟨_, fun a ha => by rw [results_tmp2 hr, ha, ha, hv, hu], h⟩⟩
theorem ret0 {fn : Func} {σ : Fr} {R : Ending → World → Prop} (hr : fn.results = #[]) (h : R (.returned (.tuple #[])) w) : RetOf P fn R σ w :=
 ⟨⟨_, fun a ha => by rw [results_none hr], h⟩⟩
end
section
variable {w : World} {F : List Piece} {g : Nat} {t : TypeId} {cs : Array Value} {v0 v1 v2 v3 v4 v5 v6 v7 : Value} {K : World → Prop}
theorem set8 (hs : cs.size = 8) : (((((((cs.setIfInBounds 0 v0).setIfInBounds 1 v1).setIfInBounds 2 v2).setIfInBounds 3 v3).setIfInBounds 4 v4).setIfInBounds 5 v5).setIfInBounds 6 v6).setIfInBounds 7 v7 = #[v0, v1, v2, v3, v4, v5, v6, v7] := by
 obtain ⟨l⟩ := cs
 match l, hs with
 | [a, b, c, d, e, f, x, y], _ =>
  apply Array.ext'
  simp only [Array.toList_setIfInBounds]
  rfl
theorem SL.stEv (H : SL w (row g cs t :: F)) (hs : cs.size = 8) (h : (v0.oneCell' && v1.oneCell' && v2.oneCell' && v3.oneCell' && v4.oneCell' && v5.oneCell' && v6.oneCell' && v7.oneCell') = true) (k : ∀ w', SL w' (row g #[v0, v1, v2, v3, v4, v5, v6, v7] t :: F) → K w') :
  St w ⟨g, 0, none⟩ v0 fun w => St w ⟨g, 1, none⟩ v1 fun w => St w ⟨g, 2, none⟩ v2 fun w => St w ⟨g, 3, none⟩ v3 fun w => St w ⟨g, 4, none⟩ v4 fun w => St w ⟨g, 5, none⟩ v5 fun w => St w ⟨g, 6, none⟩ v6 fun w => St w ⟨g, 7, none⟩ v7 K := by
 simp only [Bool.and_eq_true] at h
 obtain ⟨⟨⟨⟨⟨⟨⟨a0, a1⟩, a2⟩, a3⟩, a4⟩, a5⟩, a6⟩, a7⟩ := h
 refine H.sti 0 rfl (by rw [hs]; decide) a0 ?_
 have H := H.set 0 v0
 refine H.sti 0 rfl (by rw [Array.size_setIfInBounds, hs]; decide) a1 ?_
 have H := H.set 1 v1
 refine H.sti 0 rfl (by simp only [Array.size_setIfInBounds, hs]; decide) a2 ?_
 have H := H.set 2 v2
 refine H.sti 0 rfl (by simp only [Array.size_setIfInBounds, hs]; decide) a3 ?_
 have H := H.set 3 v3
 refine H.sti 0 rfl (by simp only [Array.size_setIfInBounds, hs]; decide) a4 ?_
 have H := H.set 4 v4
 refine H.sti 0 rfl (by simp only [Array.size_setIfInBounds, hs]; decide) a5 ?_
 have H := H.set 5 v5
 refine H.sti 0 rfl (by simp only [Array.size_setIfInBounds, hs]; decide) a6 ?_
 have H := H.set 6 v6
 refine H.sti 0 rfl (by simp only [Array.size_setIfInBounds, hs]; decide) a7 ?_
 have H := H.set 7 v7
 rw [set8 hs] at H
 exact k _ H
end
theorem mixed : Tryz.prog.follows .mixedOrders = true := by kernel_rfl
end Go.Proofs.YtoamjodmidbmbaaGreatDoor
namespace Go.Proofs.YtoamjodmidbmbaaGreatDoor
open Go.RowKit Go.ChangeMaps
open Go.Maps (Keyed Tidy has size IsMap)
theorem keyLit (c : Int) : WideAt.IsKeyLit (.int .i64 c) := by unfold WideAt.IsKeyLit; trivial
def heldR (v : Value) : Option (DataW Value × List MemPlace) := some (.held v, [])
structure MapIs (D : DataW Value) (n : Nat) (f : Int → Option Value) : Prop where
 tidy : Tidy D
 size_ : size D = n
 at_ : ∀ c z, D.atKey (.int .i64 c) z = (match f c with | some v => .held v | none => z)
 has_ : ∀ c, has D (.int .i64 c) = (f c).isSome
def upd (f : Int → Option Value) (c : Int) (v : Option Value) : Int → Option Value := fun x => if x = c then v else f x
def MapP (kt b n : Nat) (f : Int → Option Value) : Piece where
 on S w := S b ∧ ∃ D m, w.ownsMap Tryz.prog kt heldR b m D ∧ MapIs D n f ∧ m ≤ 4000000
 move := by
  rintro w w' S ⟨h1, D, m, ⟨es, clock, hb, r⟩, h2⟩ s
  exact ⟨h1, D, m, ⟨es, clock, (s.block _ h1).trans hb, r⟩, h2⟩
 mono h k := ⟨k _ h.1, h.2⟩
section
variable {w : World} {F L : List Piece} {kt b n : Nat} {f : Int → Option Value}
theorem SL.mapMade (kt : Nat) (h : SL w L) : SL (w.alloc (.map #[] 0)) (MapP kt w.heap.size 0 (fun _ => none) :: L) :=
 (h.alloc _).conv (fun S hS h => ⟨h.1, .map [], 0, World.ownsMap_made w _ _ _, ⟨Maps.tidy_empty, rfl, fun _ _ => rfl, fun _ => rfl⟩, Nat.zero_le _⟩)
theorem MapIs.put {D : DataW Value} (h : MapIs D n f) (c : Int) (v : Value) : MapIs (D.put (.int .i64 c) (.held v)) (if (f c).isSome then n else n + 1) (upd f c (some v)) := by
 refine ⟨?_, ?_, ?_, ?_⟩
 ·exact h.tidy.put (keyLit c) _
 ·rw [Maps.size_put h.tidy, h.has_, h.size_]
 ·intro x z
  unfold upd
  by_cases hx : x = c
  ·subst hx
   rw [if_pos rfl, Maps.atKey_put_same h.tidy.isMap (keyLit _)]
  ·rw [if_neg hx, Maps.atKey_put_other (by intro e; injection e with _ e; exact hx e), h.at_]
 ·intro x
  unfold upd
  by_cases hx : x = c
  ·subst hx
   rw [if_pos rfl, Maps.has_put_same h.tidy.isMap (keyLit _)]
   rfl
  ·rw [if_neg hx, Maps.has_put_other (by intro e; injection e with _ e; exact hx e), h.has_]
variable {ops : Array Oper} {rest : List Oper} {o : Oper} {a : Act} {Q : Exit → Act → World → Prop}
theorem map_look {e t : TypeId} (H : SL w (MapP kt b n f :: F)) (hk : Tryz.prog.underlying kt = some (.int .i64)) (ht : Tryz.prog.underlying t = some (.map kt e)) {z : Value} (hz : (zeroValue e).run Tryz.prog w = .ok z w) {c : Int} (hc : (Lit.int .i64 c).wf = true) :
  (Instr.lookup t (.map (some b)) (.int .i64 c) false).run Tryz.prog w = .ok ((f c).getD z) w := by
 obtain ⟨S, _, _, D, m, hown, hD, _⟩ := H.on
 obtain ⟨v, ps, hrun, hv⟩ := hown.lookup (Maps.int_keyed hk) ht hz (zd := .held z) (zp := []) rfl (Maps.keyOf_int_mk hk hc)
 rw [hrun]
 unfold heldR at hv
 have h1 := hD.at_ c (.held z)
 have h2 : (DataW.held v) = D.atKey (.int .i64 c) (.held z) := (Prod.mk.inj (Option.some.inj hv)).1
 rw [h1] at h2
 have h3 : v = (f c).getD z := by
  cases hf : f c with
  | none =>
   rw [hf] at h2
   exact DataW.held.inj h2
  | some u =>
   rw [hf] at h2
   exact DataW.held.inj h2
 exact congrArg (fun u => Result.ok u w) h3
theorem map_look_ok {e t : TypeId} (H : SL w (MapP kt b n f :: F)) (hk : Tryz.prog.underlying kt = some (.int .i64)) (ht : Tryz.prog.underlying t = some (.map kt e)) {z : Value} (hz : (zeroValue e).run Tryz.prog w = .ok z w) {c : Int} (hc : (Lit.int .i64 c).wf = true) :
  (Instr.lookup t (.map (some b)) (.int .i64 c) true).run Tryz.prog w = .ok (.tuple #[(f c).getD z, .bool (f c).isSome]) w := by
 obtain ⟨S, _, _, D, m, hown, hD, _⟩ := H.on
 obtain ⟨v, ps, hrun, hv⟩ := hown.look_ok (Maps.int_keyed hk) ht hz (zd := .held z) (zp := []) rfl (Maps.keyOf_int_mk hk hc)
 rw [hrun, hD.has_]
 unfold heldR at hv
 have h1 := hD.at_ c (.held z)
 have h2 : (DataW.held v) = D.atKey (.int .i64 c) (.held z) := (Prod.mk.inj (Option.some.inj hv)).1
 rw [h1] at h2
 have h3 : v = (f c).getD z := by
  cases hf : f c with
  | none =>
   rw [hf] at h2
   exact DataW.held.inj h2
  | some u =>
   rw [hf] at h2
   exact DataW.held.inj h2
 exact congrArg (fun u => Result.ok (Value.tuple #[u, .bool (f c).isSome]) w) h3
end
end Go.Proofs.YtoamjodmidbmbaaGreatDoor
namespace Go.Proofs.YtoamjodmidbmbaaGreatDoor
open Go.RowKit Go.ChangeMaps
section
variable {P : Program} {w : World} {L F : List Piece} {g o te sz n c : Nat} {xs : List Value} {v u : Value} {K : Value → Prop}
theorem own_cell (h : w.ownsRow 0 te sz (.slice (some ⟨g, 0, none⟩) n c) n xs) (hj : xs[o]? = some v) : w.cell? ⟨g, o, none⟩ = some v := by
 have := h.cells (g := g) rfl o v hj
 unfold Addr.add at this
 split at this
 ·rename_i h0; subst h0; exact this
 ·simpa using this
theorem SL.slcCell (H : SL w L) (i : Nat) (hi : L[i]? = some (Slc te sz (.slice (some ⟨g, 0, none⟩) n c) n xs)) (hj : xs[o]? = some v) : w.cell? ⟨g, o, none⟩ = some v := by
 obtain ⟨T, _, h⟩ := SLs.at i H hi
 exact own_cell h.1 hj
theorem SL.ldS (H : SL w L) (i : Nat) (hi : L[i]? = some (Slc te sz (.slice (some ⟨g, 0, none⟩) n c) n xs)) (hj : xs[o]? = some v) (k : K v) : Ld w ⟨g, o, none⟩ K := Ld.by (H.slcCell i hi hj) k
theorem LdC.S (i : Nat) (hi : L[i]? = some (Slc te sz (.slice (some ⟨g, 0, none⟩) n c) n xs)) (hj : xs[o]? = some v) (k : K v) : LdC (fun w => SL w L) ⟨g, o, none⟩ K := LdC.by (fun w H => SL.slcCell H i hi hj) k
theorem own_set (h : w.ownsRow 0 te sz (.slice (some ⟨g, 0, none⟩) n c) n xs) (ho : o < xs.length) : (w.setCell ⟨g, o, none⟩ u).ownsRow 0 te sz (.slice (some ⟨g, 0, none⟩) n c) n (xs.set o u) := by
 obtain ⟨h1, h2⟩ := h
 refine ⟨by rw [List.length_set]; exact h1, ?_⟩
 rcases h2 with ⟨h2, _⟩ | ⟨g', cap, cur, h2, h3, h4, h5, h6, h7, h8⟩
 ·cases h2
 ·injection h2 with e1 e2 e3
  injection e1 with e1
  injection e1 with e1
  subst e1 e3
  refine .inr ⟨g, c, cur.setIfInBounds o u, rfl, h3, ?_, h5, h6, by simp [h7], ?_⟩
  ·exact blk_set h4 o u
  ·rw [← h8, Array.toList_setIfInBounds, List.take_set]
theorem own_free (h : w.ownsRow 0 te sz (.slice (some ⟨g, 0, none⟩) n c) n xs) (i : Nat) : w.frozen? ⟨g, i, none⟩ = false := by
 rcases h.2 with ⟨h2, _⟩ | ⟨g', cap, cur, h2, h3, h4, _⟩
 ·cases h2
 ·injection h2 with e1 e2 e3
  injection e1 with e1
  injection e1 with e1
  subst e1
  simp [World.frozen?, h4]
theorem SL.stS {K : World → Prop} (H : SL w (Slc te sz (.slice (some ⟨g, 0, none⟩) n c) n xs :: F)) (ho : o < xs.length) (h1 : u.oneCell' = true)
  (k : ∀ w', SL w' (Slc te sz (.slice (some ⟨g, 0, none⟩) n c) n (xs.set o u) :: F) → K w') : St w ⟨g, o, none⟩ u K := by
 obtain ⟨S, ⟨h2, h3⟩, h4, h5⟩ := H.call
 have hg := h3 g rfl
 refine ⟨⟨⟨xs[o], own_cell h2 (by simp [ho])⟩, own_free h2 o, h1, k _ (h5 _ [Slc te sz (.slice (some ⟨g, 0, none⟩) n c) n (xs.set o u)] ((Frm.refl S w).setCell (p := ⟨g, o, none⟩) (fun _ => hg) u) ⟨_, fun _ h => h, ⟨own_set h2 ho, fun k hk => .inl (h3 k hk)⟩, trivial⟩)⟩⟩
theorem SL.app {σ : Fr} {op : Oper} {K : Value → World → Prop} (H : SL w (Slc te sz v n xs :: F)) (s x : Operand) (t : TypeId) (z : Value) (bytes : Nat)
  (hop : op.op = .call { callee := .builtin .append, args := #[s, x], argTypes := #[t, t] })
  (ht : P.underlying t = some (.slice te)) (hinfo : (P.info? te).map (fun i => (i.zero, i.size, i.bytes)) = some (some z, sz, bytes)) (hz : z.cells.size = sz) (hs0 : 0 < sz)
  (hs : ev σ s = v) (A : Option Addr) (m cap : Nat) (news : List Value) (hx : ev σ x = .slice A m cap) (hr : Rd w sz A m news) (h1 : news.all Value.oneCell' = true) (hn : n + m < 1000000000) (hl : bytes ≤ 1000)
  (k : ∀ v' w', SL w' (Slc te sz v' (n + m) (xs ++ news) :: F) → K v' w') : Mn P σ op w K := by
 obtain ⟨v1, w1, hrun, k1, _⟩ := sl_append_run (P := P) t op.type z bytes ht hinfo hz hs0 v n xs A m cap news hr h1 H hn hl
 refine Mn.by (v := v1) (w' := w1) ?_ (k v1 w1 k1)
 simp only [execOp, hop, resolve, invoke, builtin, Sem.run_bind, Sem.run_pure, Result.andThen_ok, List.map_toArray, List.map_cons, List.map_nil, hs, hx, hrun]
theorem SL.appS {σ : Fr} {op : Oper} {K : Value → World → Prop} (H : SL w (Slc te sz v n xs :: F)) (s x : Operand) (t : TypeId) (z : Value) (bytes : Nat)
  (hop : op.op = .call { callee := .builtin .append, args := #[s, x], argTypes := #[t, t] })
  (ht : P.underlying t = some (.slice te)) (hinfo : (P.info? te).map (fun i => (i.zero, i.size, i.bytes)) = some (some z, sz, bytes)) (hz : z.cells.size = sz) (hs0 : 0 < sz)
  (hs : ev σ s = v) (A : Option Addr) (m cap : Nat) (news : List Value) (hx : ev σ x = .slice A m cap) (hr : Rd w sz A m news) (h1 : news.all Value.oneCell' = true) (hn : n + m < 1000000000) (hl : bytes ≤ 1000) (hm : 0 < m)
  (k : ∀ g c w', SL w' (Slc te sz (.slice (some ⟨g, 0, none⟩) (n + m) c) (n + m) (xs ++ news) :: F) → K (.slice (some ⟨g, 0, none⟩) (n + m) c) w') : Mn P σ op w K := by
 refine SL.app H s x t z bytes hop ht hinfo hz hs0 hs A m cap news hx hr h1 hn hl ?_
 intro v' w' H'
 obtain ⟨S, _, h⟩ := H'.on
 obtain ⟨a, c, rfl⟩ := own_form h.1
 obtain ⟨g, rfl⟩ := own_some h.1 (by omega)
 exact k g c w' H'
theorem Mn.build {σ : Fr} {op : Oper} {K : Value → World → Prop} (cs : Array Value) {t : TypeId} {parts : Array (Nat × Operand)} (hop : op.op = .build t parts) (h : P.built t (parts.toList.map fun p => (p.1, ev σ p.2)) = some cs) (k : K (.agg cs) w) : Mn P σ op w K := by
 refine Mn.by (v := .agg cs) (w' := w) ?_ k
 simp only [execOp, hop, Sem.run_bind]
 rw [run_build w t _ cs (by simpa using h)]
 rfl
theorem MnC.build {σ : Fr} {op : Oper} {S : World → Prop} {K : Value → Prop} (cs : Array Value) {t : TypeId} {parts : Array (Nat × Operand)} (hop : op.op = .build t parts) (h : P.built t (parts.toList.map fun p => (p.1, ev σ p.2)) = some cs) (k : K (.agg cs)) : MnC P S σ op K := by
 refine ⟨⟨.agg cs, fun w _ => ?_, k⟩⟩
 simp only [execOp, hop, Sem.run_bind]
 rw [run_build w t _ cs (by simpa using h)]
 rfl
theorem Mn.pure {σ : Fr} {op : Oper} {K : Value → World → Prop} (v : Value) (h : (execOp (ev σ) op).run P w = .ok (.value v) w) (k : K v w) : Mn P σ op w K := Mn.by h k
theorem MnC.pure {σ : Fr} {op : Oper} {S : World → Prop} {K : Value → Prop} (v : Value) (h : ∀ w, (execOp (ev σ) op).run P w = .ok (.value v) w) (k : K v) : MnC P S σ op K := ⟨⟨v, fun w _ => h w, k⟩⟩
theorem Mn.new {σ : Fr} {op : Oper} {K : Value → World → Prop} (f : Nat → Value) (cs : Array Value) (t : Nat) (h : (execOp (ev σ) op).run P w = .ok (.value (f w.heap.size)) (w.alloc (.cells cs t (0, 0)))) (H : SL w L) (k : ∀ b w', SL w' (row b cs t :: L) → K (f b) w') : Mn P σ op w K :=
 Mn.by h (k _ _ (H.alloc _))
theorem Mn.newMap {σ : Fr} {op : Oper} {K : Value → World → Prop} (kt : Nat) (h : (execOp (ev σ) op).run Tryz.prog w = .ok (.value (.map (some w.heap.size))) (w.alloc (.map #[] 0))) (H : SL w L) (k : ∀ b w', SL w' (MapP kt b 0 (fun _ => none) :: L) → K (.map (some b)) w') : Mn Tryz.prog σ op w K :=
 Mn.by h (k _ _ (H.mapMade kt))
theorem SL.one {A : Piece} (H : SL w L) (i : Nat) (hi : L[i]? = some A) : SL w [A] := by
 obtain ⟨T, h1, h2⟩ := SLs.at i H hi
 exact ⟨T, h1, h2, trivial⟩
theorem SL.rdRow {cs : List Value} {t m : Nat} (H : SL w L) (i : Nat) (hi : L[i]? = some (row g cs.toArray t)) (hm : cs.length = m * sz) (hx : m ≤ maxLen) : Rd w sz (some ⟨g, 0, none⟩) m cs :=
 ⟨hm, hx, fun _ => ⟨g, 0, rfl, fun j u hu => row_cell (H.at i hi) (0 + j) (by rw [Nat.zero_add]; simpa using hu)⟩⟩
end
section
variable {w : World} {L F : List Piece} {kt b n : Nat} {f : Int → Option Value} {σ : Fr} {op : Oper}
theorem MnC.look {K : Value → Prop} (i : Nat) (hi : L[i]? = some (MapP kt b n f)) (m x : Operand) (t e : TypeId) (hop : op.op = .lookup t m x false) (hk : Tryz.prog.underlying kt = some (.int .i64)) (ht : Tryz.prog.underlying t = some (.map kt e)) {z : Value} (hz : ∀ w, (zeroValue e).run Tryz.prog w = .ok z w)
  (c : Int) (hc : (Lit.int .i64 c).wf = true) (hm : ev σ m = .map (some b)) (hx : ev σ x = .int .i64 c) (k : K ((f c).getD z)) : MnC Tryz.prog (fun w => SL w L) σ op K := by
 refine ⟨⟨(f c).getD z, fun w H => ?_, k⟩⟩
 have hrun := map_look (SL.one H i hi) hk ht (hz w) hc
 simp [execOp, hop, hm, hx, hrun, Result.andThen]
theorem Mn.look {K : Value → World → Prop} (H : SL w L) (i : Nat) (hi : L[i]? = some (MapP kt b n f)) (m x : Operand) (t e : TypeId) (hop : op.op = .lookup t m x false) (hk : Tryz.prog.underlying kt = some (.int .i64)) (ht : Tryz.prog.underlying t = some (.map kt e)) {z : Value} (hz : ∀ w, (zeroValue e).run Tryz.prog w = .ok z w)
  (c : Int) (hc : (Lit.int .i64 c).wf = true) (hm : ev σ m = .map (some b)) (hx : ev σ x = .int .i64 c) (k : K ((f c).getD z) w) : Mn Tryz.prog σ op w K := by
 refine Mn.by (v := (f c).getD z) (w' := w) ?_ k
 have hrun := map_look (H.one i hi) hk ht (hz w) hc
 simp [execOp, hop, hm, hx, hrun, Result.andThen]
theorem Mn.mapSet {K : Value → World → Prop} (H : SL w (MapP kt b n f :: F)) (hn : n ≤ 3000000) (m x v : Operand) (t e : TypeId) (hop : op.op = .mapUpdate t m x v) (hk : Tryz.prog.underlying kt = some (.int .i64)) (ht : Tryz.prog.underlying t = some (.map kt e))
  (c : Int) (hc : (Lit.int .i64 c).wf = true) (val : Value) (hm : ev σ m = .map (some b)) (hx : ev σ x = .int .i64 c) (hv : ev σ v = val)
  (k : ∀ w', SL w' (MapP kt b (if (f c).isSome then n else n + 1) (upd f c (some val)) :: F) → K undef w') : Mn Tryz.prog σ op w K := by
 obtain ⟨S, ⟨hS, D, m', hown, hD, hm'⟩, hlt, hcall⟩ := H.call
 have hown' : w.ownsMap Tryz.prog kt heldR b n D := by
  obtain ⟨es, clock, hb, r, hs, rfl⟩ := hown
  refine ⟨es, clock, hb, r, ?_, rfl⟩
  have := hD.size_
  rw [Maps.size_eq, length_read] at this
  omega
 obtain ⟨w', hrun, h1, h2⟩ := hown'.update (Maps.int_keyed hk) ht (by unfold maxLen; omega) (Maps.keyOf_int_mk hk hc) (d := .held val) (ps := []) (val := val) rfl
 refine ⟨⟨undef, w', .inr ⟨?_, rfl⟩, k w' (hcall w' [_] ((Frm.refl S w).grown h2 (fun k hk _ => by injection hk with hk; rw [← hk]; exact hS)) ⟨_, fun _ h => h, ⟨.inl hS, _, n + 1, h1, hD.put c val, by omega⟩, trivial⟩)⟩⟩
 simp [execOp, hop, hm, hx, hv, hrun, Result.andThen]
theorem run_map_len (H : SL w L) (i : Nat) (hi : L[i]? = some (MapP kt b n f)) {t e ty : TypeId} (ht : Tryz.prog.underlying t = some (.map kt e)) : (Builtin.len_ #[t] ty #[.map (some b)]).run Tryz.prog w = .ok (.int .i64 n) w := by
 obtain ⟨T, _, _, D, m, hown, hD, _⟩ := SLs.at i H hi
 have := hown.len ht ty
 rw [hD.size_] at this
 exact this
theorem MnC.mapLen {K : Value → Prop} (i : Nat) (hi : L[i]? = some (MapP kt b n f)) (m : Operand) (t e : TypeId) (hop : op.op = .call { callee := .builtin .len, args := #[m], argTypes := #[t] }) (ht : Tryz.prog.underlying t = some (.map kt e)) (hm : ev σ m = .map (some b)) (k : K (.int .i64 n)) : MnC Tryz.prog (fun w => SL w L) σ op K := by
 refine ⟨⟨.int .i64 n, fun w H => ?_, k⟩⟩
 simp [execOp, hop, resolve, invoke, builtin, hm, run_map_len H i hi ht, Result.andThen]
theorem Mn.mapLen {K : Value → World → Prop} (H : SL w L) (i : Nat) (hi : L[i]? = some (MapP kt b n f)) (m : Operand) (t e : TypeId) (hop : op.op = .call { callee := .builtin .len, args := #[m], argTypes := #[t] }) (ht : Tryz.prog.underlying t = some (.map kt e)) (hm : ev σ m = .map (some b)) (k : K (.int .i64 n) w) : Mn Tryz.prog σ op w K := by
 refine Mn.by (v := .int .i64 n) (w' := w) ?_ k
 simp [execOp, hop, resolve, invoke, builtin, hm, run_map_len H i hi ht, Result.andThen]
end
theorem flat_set {α : Type} (enc : α → List Value) (sz : Nat) (hsz : ∀ x, (enc x).length = sz) : ∀ (L : List α) (g j : Nat) (v : Value) (y : α) (hg : g < L.length), j < sz → enc y = (enc L[g]).set j v → (L.flatMap enc).set (g * sz + j) v = (L.set g y).flatMap enc
 | [], g, _, _, _, hg, _, _ => absurd hg (Nat.not_lt_zero g)
 | x :: l, 0, j, v, y, _, hj, hy => by
  simp only [List.flatMap_cons, List.set_cons_zero, Nat.zero_mul, Nat.zero_add]
  rw [List.set_append_left _ _ (by rw [hsz]; exact hj)]
  rw [hy]
  rfl
 | x :: l, g + 1, j, v, y, hg, hj, hy => by
  simp only [List.flatMap_cons, List.set_cons_succ]
  rw [List.set_append_right _ _ (by rw [hsz, Nat.succ_mul]; omega), hsz]
  rw [show (g + 1) * sz + j - sz = g * sz + j by rw [Nat.succ_mul]; omega]
  rw [flat_set enc sz hsz l g j v y (by simpa using hg) hj (by simpa using hy)]
theorem Addr_add (b off n : Nat) : (⟨b, off, none⟩ : Addr).add n = ⟨b, off + n, none⟩ := by
 unfold Addr.add
 split
 ·rename_i h
  subst h
  rfl
 ·rfl
theorem Ix.at {P : Program} {e b off n : Nat} {i : Int} {K : Value → Prop} (j sz : Nat) (hs : (P.info? e).map (·.size) = some sz) (hi : i = (j : Int)) (hj : j < n) (k : K (.pointer (some ⟨b, off + j * sz, none⟩))) : Ix P e ⟨b, off, none⟩ n i K :=
 Ix.by j sz hs hi hj (by rw [Addr_add]; exact k)
theorem Ix.at0 {P : Program} {e b n : Nat} {i : Int} {K : Value → Prop} (j sz : Nat) (hs : (P.info? e).map (·.size) = some sz) (hi : i = (j : Int)) (hj : j < n) (k : K (.pointer (some ⟨b, j * sz, none⟩))) : Ix P e ⟨b, 0, none⟩ n i K :=
 Ix.at j sz hs hi hj (by rw [Nat.zero_add]; exact k)
def Qu (te sz : Nat) (v : Value) (n : Nat) (xs : List Value) : Piece where
 on S w := xs.length = n * sz ∧ ((v = .slice none 0 0 ∧ n = 0) ∨ ∃ g off cap cur, v = .slice (some ⟨g, off, none⟩) n cap ∧ S g ∧ w.heap[g]? = some (.cells cur te (0, 0)) ∧ n ≤ cap ∧ cap ≤ maxLen ∧ off + cap * sz ≤ cur.size ∧ (cur.toList.drop off).take (n * sz) = xs)
 move h s := ⟨h.1, h.2.imp id (fun ⟨g, off, cap, cur, h1, h2, h3, r⟩ => ⟨g, off, cap, cur, h1, h2, (s.block g h2).trans h3, r⟩)⟩
 mono h k := ⟨h.1, h.2.imp id (fun ⟨g, off, cap, cur, h1, h2, r⟩ => ⟨g, off, cap, cur, h1, k g h2, r⟩)⟩
section
variable {P : Program} {w : World} {L F : List Piece} {g off o te sz n c : Nat} {xs : List Value} {v u : Value}
theorem SL.quNil (te sz : Nat) (h : SL w F) : SL w (Qu te sz (.slice none 0 0) 0 [] :: F) :=
 ⟨fun _ => False, fun _ h => h.elim, ⟨by simp, .inl ⟨rfl, rfl⟩⟩, h.mono (fun k hk => ⟨hk, id⟩)⟩
theorem SL.quForm (h : SL w (Qu te sz v n xs :: F)) : ∃ a c, v = .slice a n c := by
 obtain ⟨S, _, _, h⟩ := h.on
 rcases h with ⟨rfl, rfl⟩ | ⟨g, off, cap, cur, rfl, _⟩
 ·exact ⟨_, _, rfl⟩
 ·exact ⟨_, _, rfl⟩
theorem SL.quSome (h : SL w (Qu te sz v n xs :: F)) (hn : 0 < n) : ∃ g off c, v = .slice (some ⟨g, off, none⟩) n c := by
 obtain ⟨S, _, _, h⟩ := h.on
 rcases h with ⟨rfl, rfl⟩ | ⟨g, off, cap, cur, rfl, _⟩
 ·exact absurd hn (Nat.lt_irrefl _)
 ·exact ⟨_, _, _, rfl⟩
theorem SL.quCell (H : SL w L) (i : Nat) (hi : L[i]? = some (Qu te sz (.slice (some ⟨g, off, none⟩) n c) n xs)) (hj : xs[o]? = some v) : w.cell? ⟨g, off + o, none⟩ = some v := by
 obtain ⟨T, _, _, h⟩ := SLs.at i H hi
 rcases h with ⟨h, _⟩ | ⟨g', off', cap, cur, h, _, hb, _, _, _, ht⟩
 ·cases h
 ·injection h with e1 e2 e3
  injection e1 with e1
  injection e1 with e1 e4
  subst e1 e4
  refine row_cell hb _ ?_
  rw [← ht, List.getElem?_take] at hj
  split at hj
  ·rw [List.getElem?_drop] at hj
   simpa using hj
  ·cases hj
theorem SL.ldQ {K : Value → Prop} (H : SL w L) (i : Nat) (hi : L[i]? = some (Qu te sz (.slice (some ⟨g, off, none⟩) n c) n xs)) (hj : xs[o]? = some v) (k : K v) : Ld w ⟨g, off + o, none⟩ K := Ld.by (H.quCell i hi hj) k
theorem LdC.Q {K : Value → Prop} (i : Nat) (hi : L[i]? = some (Qu te sz (.slice (some ⟨g, off, none⟩) n c) n xs)) (hj : xs[o]? = some v) (k : K v) : LdC (fun w => SL w L) ⟨g, off + o, none⟩ K := LdC.by (fun w H => SL.quCell H i hi hj) k
def rest1 (sz : Nat) : Value → Value
 | .slice a n c => .slice (if c = 1 then a else a.map (·.add sz)) (n - 1) (c - 1)
 | v => v
theorem SL.quTail (H : SL w (Qu te sz v (n + 1) xs :: F)) : SL w (Qu te sz (rest1 sz v) n (xs.drop sz) :: F) := by
 refine H.conv (fun S _ h => ?_)
 obtain ⟨h1, h⟩ := h
 refine ⟨by rw [List.length_drop, h1, Nat.succ_mul]; omega, ?_⟩
 rcases h with ⟨_, h⟩ | ⟨g, off, cap, cur, rfl, hS, hb, hc, hm, hs, ht⟩
 ·omega
 ·refine .inr ⟨g, if cap = 1 then off else off + sz, cap - 1, cur, ?_, hS, hb, by omega, by omega, ?_, ?_⟩
  ·show Value.slice (if cap = 1 then _ else _) (n + 1 - 1) (cap - 1) = _
   rw [Nat.add_sub_cancel]
   split
   ·rfl
   ·simp only [Option.map_some, Addr_add]
  ·obtain ⟨d, rfl⟩ : ∃ d, cap = d + 1 := ⟨cap - 1, by omega⟩
   rw [Nat.succ_mul] at hs
   rw [Nat.add_sub_cancel]
   split <;> omega
  ·rw [← ht, List.drop_take, List.drop_drop, Nat.succ_mul]
   have : n * sz + sz - sz = n * sz := by omega
   rw [this]
   split
   ·have : n = 0 := by omega
    subst this
    simp
   ·rfl
theorem run_tail {t lo : Nat} {σ : Fr} {op : Oper} (x : Operand) (l : Operand) (hop : op.op = .slice t x (some l) none none) (ht : P.underlying t = some (.slice te)) (hsz : (P.info? te).map (·.size) = some sz) {a : Option Addr} (hn : 0 < n) (hc : n ≤ c)
  (hx : ev σ x = .slice a n c) (hl : ev σ l = .int .i64 1) (w : World) : (execOp (ev σ) op).run P w = .ok (.value (rest1 sz (.slice a n c))) w := by
 obtain ⟨i, hi, hs⟩ := Option.map_eq_some_iff.1 hsz
 have hle : (1 : Int) ≤ (n : Int) := by omega
 have h1 : ¬ (n < 1) := by omega
 by_cases hc1 : c = 1
 ·subst hc1
  simp [execOp, hop, hx, hl, Instr.sliceAt, Instr.slice, run_underlying ht, Instr.sliceBounds, Instr.sliceBound, asIntOf, hle, sizeOf, typeInfo, hi, rest1, Result.andThen]
 ·have hc2 : ¬ (1 = c) := fun e => hc1 e.symm
  simp [execOp, hop, hx, hl, Instr.sliceAt, Instr.slice, run_underlying ht, Instr.sliceBounds, Instr.sliceBound, asIntOf, hle, sizeOf, typeInfo, hi, rest1, hs, hc1, hc2, Result.andThen]
theorem SL.quLe {a : Option Addr} (h : SL w (Qu te sz (.slice a n c) n xs :: F)) : n ≤ c := by
 obtain ⟨S, _, _, h⟩ := h.on
 rcases h with ⟨h, rfl⟩ | ⟨g, off, cap, cur, h, _, _, h2, _⟩
 ·exact Nat.zero_le _
 ·injection h with _ _ e
  subst e
  exact h2
theorem Mn.tail {σ : Fr} {op : Oper} {K : Value → World → Prop} (H : SL w (Qu te sz v (n + 1) xs :: F)) (x l : Operand) (t : Nat) (hop : op.op = .slice t x (some l) none none) (ht : P.underlying t = some (.slice te)) (hsz : (P.info? te).map (·.size) = some sz)
  (hx : ev σ x = v) (hl : ev σ l = .int .i64 1) (k : SL w (Qu te sz (rest1 sz v) n (xs.drop sz) :: F) → K (rest1 sz v) w) : Mn P σ op w K := by
 obtain ⟨a, c, rfl⟩ := H.quForm
 exact Mn.by (run_tail (lo := 0) x l hop ht hsz (by omega) H.quLe hx hl w) (k H.quTail)
theorem MnC.tail {σ : Fr} {op : Oper} {K : Value → Prop} (H : SL w (Qu te sz v (n + 1) xs :: F)) {S : World → Prop} (x l : Operand) (t : Nat) (hop : op.op = .slice t x (some l) none none) (ht : P.underlying t = some (.slice te)) (hsz : (P.info? te).map (·.size) = some sz)
  (hx : ev σ x = v) (hl : ev σ l = .int .i64 1) (k : K (rest1 sz v)) : MnC P S σ op K := by
 obtain ⟨a, c, rfl⟩ := H.quForm
 exact MnC.pure _ (fun w' => run_tail (lo := 0) x l hop ht hsz (by omega) H.quLe hx hl w') k
theorem run_append_roomQ (w : World) (t ty e : TypeId) (i : TypeInfo) (ht : P.underlying t = some (.slice e)) (hi : P.info? e = some i)
  (g off sLen sCap : Nat) (cur : Array Value) (hg : w.heap[g]? = some (.cells cur e (0, 0)))
  (a : Addr) (m c : Nat) (news : List Value) (hl : news.length = m * i.size) (hnews : ∀ j u, news[j]? = some u → w.cell? (a.add j) = some u) (h1 : ∀ u ∈ news, u.oneCell' = true)
  (hroom : sLen + m ≤ sCap) (hfit : off + sLen * i.size + news.length ≤ cur.size) :
  (Builtin.append_ #[t, t] ty #[.slice (some ⟨g, off, none⟩) sLen sCap, .slice (some a) m c]).run P w =
   .ok (.slice (some ⟨g, off, none⟩) (sLen + m) sCap) (w.setRow g (cur.toList.take (off + sLen * i.size) ++ news ++ cur.toList.drop (off + sLen * i.size + news.length)).toArray) := by
 have hf := run_firstCells_some (P := P) w i.size m a m c news hl hnews
 have hst := run_storeCells_at P g (off + sLen * i.size) e news 0 cur w hg (by simpa using hfit) h1
 simp only [Nat.add_zero] at hst
 simp [Builtin.append_, run_underlying ht, sizeOf, typeInfo, hi, Builtin.lenOf, hroom, hf, Addr_add, hst]
theorem take_drop_put (l news : List Value) (off k : Nat) (h : off + k + news.length ≤ l.length) :
  ((l.take (off + k) ++ news ++ l.drop (off + k + news.length)).drop off).take (k + news.length) = (l.drop off).take k ++ news := by
 have e : l.take (off + k) = l.take off ++ (l.drop off).take k := by rw [List.take_add]
 rw [e, List.append_assoc, List.append_assoc, List.drop_append_of_le_length (by simp; omega)]
 have e2 : (l.take off).drop off = [] := by simp
 rw [e2, List.nil_append, ← List.append_assoc]
 rw [List.take_append_of_le_length (by simp; omega)]
 rw [List.take_of_length_le (by simp; omega)]
theorem qu_append_run {F : List Piece} (t ty : TypeId) (z : Value) (bytes : Nat)
  (ht : P.underlying t = some (.slice te)) (hinfo : (P.info? te).map (fun i => (i.zero, i.size, i.bytes)) = some (some z, sz, bytes)) (hz : z.cells.size = sz) (hs0 : 0 < sz)
  (v : Value) (n : Nat) (cs : List Value) (ad : Addr) (m c : Nat) (news : List Value) (hr : Rd w sz (some ad) m news) (hm : 0 < m) (h1 : news.all Value.oneCell' = true)
  (H : SL w (Qu te sz v n cs :: F)) (hn : n + m < 1000000000) (hl : bytes ≤ 1000) :
  ∃ v1 w1, (Builtin.append_ #[t, t] ty #[v, .slice (some ad) m c]).run P w = .ok v1 w1 ∧ SL w1 (Qu te sz v1 (n + m) (cs ++ news) :: F) := by
 obtain ⟨i0, hi, hzz⟩ := Option.map_eq_some_iff.1 hinfo
 simp only [Prod.mk.injEq] at hzz
 obtain ⟨hz0, hz1, hz2⟩ := hzz
 subst hz1
 obtain ⟨S, ⟨hlen, h2⟩, h4, h5⟩ := H.call
 have hcells : ∀ j u, news[j]? = some u → w.cell? (ad.add j) = some u := by
  intro j u hu
  obtain ⟨b, off, h, hc⟩ := hr.2.2 hm
  injection h with h
  subst h
  rw [Addr_add]
  exact hc j u hu
 have hbytes : (n + m) * i0.bytes ≤ 140737488355328 := by rw [hz2]; exact Nat.le_trans (Nat.mul_le_mul (show n + m ≤ 1000000000 by omega) hl) (by decide)
 have hmax : n + m ≤ maxLen := by simp only [maxLen]; omega
 have hlen' : (cs ++ news).length = (n + m) * i0.size := by rw [List.length_append, hlen, hr.1, Nat.add_mul]
 have grown : ∀ old, old < n + m → SL (w.drew.alloc (.cells (cs.toArray ++ news.toArray ++ Builtin.zeroCells z.cells (grownCap w (n + m) old te - (n + m))) te)) (Qu te i0.size (.slice (some ⟨w.heap.size, 0, none⟩) (n + m) (grownCap w (n + m) old te)) (n + m) (cs ++ news) :: F) := by
  intro old ho
  have hge := grownCap_ge w (n + m) old te
  have hcm : grownCap w (n + m) old te ≤ maxLen := grownCap_le_maxLen w (n + m) old te hmax
  refine h5 _ [_] ((Frm.refl S w).drew.alloc _) ⟨_, fun _ h => h, ⟨hlen', .inr ⟨w.heap.size, 0, _, _, rfl, .inr ⟨Nat.le_refl _, by simp⟩, heap_alloc_new w.drew _, hge, hcm, ?_, ?_⟩⟩, trivial⟩
  ·simp only [Array.size_append, List.size_toArray, size_zeroCells, hz, hlen, hr.1, ← Nat.add_mul, Nat.zero_add]
   apply Nat.mul_le_mul_right
   omega
  ·simp only [Array.toList_append, List.append_assoc, List.drop_zero]
   rw [← List.append_assoc, ← hlen']
   exact List.take_left
 rcases h2 with ⟨rfl, rfl⟩ | ⟨g, off, cap, cur, rfl, hg, hb, hnc, hcm, hcs, htake⟩
 ·have hx : cs = [] := List.eq_nil_of_length_eq_zero (by simpa using hlen)
  subst hx
  have hr' := run_append_nil (P := P) w t ty te i0 z ht hi hz0 ad m c news hr.1 hcells (by omega) (by omega) (by have hb := hbytes; simp only [Nat.zero_add] at hb; omega)
  have hgr := grown 0 (by omega)
  simp only [Nat.zero_add, List.nil_append, Array.empty_append] at hgr ⊢
  exact ⟨_, _, hr', hgr⟩
 ·by_cases hroom : n + m ≤ cap
  ·have hfit : off + n * i0.size + news.length ≤ cur.size := by
    have := Nat.mul_le_mul_right i0.size hroom
    rw [Nat.add_mul] at this
    rw [hr.1]
    omega
   have hr' := run_append_roomQ (P := P) w t ty te i0 ht hi g off n cap cur hb ad m c news hr.1 hcells (List.all_eq_true.1 h1) hroom hfit
   refine ⟨_, _, hr', h5 _ [_] ((Frm.refl S w).grown (row := some g) ⟨rfl, rfl, rfl, by simp, fun k _ hk => setRow_other w g k _ (fun e => hk (by rw [e]))⟩ (fun k hk _ => by injection hk with hk; rw [← hk]; exact hg)) ⟨_, fun _ h => h, ⟨hlen', .inr ⟨g, off, cap, _, rfl, .inl hg, setRow_heap w g cur _ te _ hb, hroom, hcm, ?_, ?_⟩⟩, trivial⟩⟩
   ·simp only [List.size_toArray, List.length_append, List.length_take, List.length_drop, Array.length_toList]
    omega
   ·have e := take_drop_put cur.toList news off (n * i0.size) (by simpa using hfit)
    rw [htake] at e
    rw [Nat.add_mul, ← hr.1]
    exact e
  ·have holds : ∀ j u, cs[j]? = some u → w.cell? ((⟨g, off, none⟩ : Addr).add j) = some u := fun j u hu => by
    rw [Addr_add]
    exact SL.quCell H 0 rfl hu
   have hr' := run_append_grow (P := P) w t ty te i0 z ht hi hz0 ⟨g, off, none⟩ n cap cs hlen holds ad m c news hr.1 hcells (by omega) (by omega) (growslice_fits (by omega) hbytes)
   exact ⟨_, _, hr', grown cap (by omega)⟩
theorem SL.appQ {σ : Fr} {op : Oper} {K : Value → World → Prop} (H : SL w (Qu te sz v n xs :: F)) (s x : Operand) (t : TypeId) (z : Value) (bytes : Nat)
  (hop : op.op = .call { callee := .builtin .append, args := #[s, x], argTypes := #[t, t] })
  (ht : P.underlying t = some (.slice te)) (hinfo : (P.info? te).map (fun i => (i.zero, i.size, i.bytes)) = some (some z, sz, bytes)) (hz : z.cells.size = sz) (hs0 : 0 < sz)
  (hs : ev σ s = v) (ad : Addr) (m cap : Nat) (news : List Value) (hx : ev σ x = .slice (some ad) m cap) (hr : Rd w sz (some ad) m news) (hm : 0 < m) (h1 : news.all Value.oneCell' = true) (hn : n + m < 1000000000) (hl : bytes ≤ 1000)
  (k : ∀ v' w', SL w' (Qu te sz v' (n + m) (xs ++ news) :: F) → K v' w') : Mn P σ op w K := by
 obtain ⟨v1, w1, hrun, k1⟩ := qu_append_run (P := P) t op.type z bytes ht hinfo hz hs0 v n xs ad m cap news hr hm h1 H hn hl
 refine Mn.by (v := v1) (w' := w1) ?_ (k v1 w1 k1)
 simp only [execOp, hop, resolve, invoke, builtin, Sem.run_bind, Sem.run_pure, Result.andThen_ok, List.map_toArray, List.map_cons, List.map_nil, hs, hx, hrun]
end
section
variable {P : Program} {w : World} {F L : List Piece} {te sz n c : Nat} {xs : List Value} {v : Value} {a : Option Addr} {σ : Fr} {op : Oper} {K : Value → World → Prop}
theorem SL.appQs (H : SL w (Qu te sz v n xs :: F)) (s x : Operand) (t : TypeId) (z : Value) (bytes : Nat)
  (hop : op.op = .call { callee := .builtin .append, args := #[s, x], argTypes := #[t, t] })
  (ht : P.underlying t = some (.slice te)) (hinfo : (P.info? te).map (fun i => (i.zero, i.size, i.bytes)) = some (some z, sz, bytes)) (hz : z.cells.size = sz) (hs0 : 0 < sz)
  (hs : ev σ s = v) (ad : Addr) (m cap : Nat) (news : List Value) (hx : ev σ x = .slice (some ad) m cap) (hr : Rd w sz (some ad) m news) (hm : 0 < m) (h1 : news.all Value.oneCell' = true) (hn : n + m < 1000000000) (hl : bytes ≤ 1000)
  (k : ∀ g o c w', SL w' (Qu te sz (.slice (some ⟨g, o, none⟩) (n + m) c) (n + m) (xs ++ news) :: F) → K (.slice (some ⟨g, o, none⟩) (n + m) c) w') : Mn P σ op w K :=
 SL.appQ H s x t z bytes hop ht hinfo hz hs0 hs ad m cap news hx hr hm h1 hn hl (fun v' w' H' => by
  obtain ⟨g, o, c, rfl⟩ := H'.quSome (by omega)
  exact k g o c w' H')
theorem Mn.tails (H : SL w (Qu te sz v (n + 1) xs :: F)) (x l : Operand) (t : Nat) (hop : op.op = .slice t x (some l) none none) (ht : P.underlying t = some (.slice te)) (hsz : (P.info? te).map (·.size) = some sz)
  (hx : ev σ x = v) (hl : ev σ l = .int .i64 1) (k : ∀ a c w', SL w' (Qu te sz (.slice a n c) n (xs.drop sz) :: F) → K (.slice a n c) w') : Mn P σ op w K :=
 Mn.tail H x l t hop ht hsz hx hl (fun H' => by
  obtain ⟨a, c, e⟩ := H'.quForm
  rw [e] at H' ⊢
  exact k a c w H')
theorem SL.quAddr (h : SL w (Qu te sz (.slice a n c) n xs :: F)) (hn : 0 < n) : ∃ g o, a = some ⟨g, o, none⟩ := by
 obtain ⟨g, o, c', e⟩ := h.quSome hn
 injection e with e
 exact ⟨g, o, e⟩
end
theorem perm_one {α : Type} {D : α} : ∀ {L : List α} (k : Nat), L[k]? = some D → ∃ R, L.Perm (D :: R)
 | [], k, h => by simp at h
 | E :: L, 0, h => by
  simp at h
  subst h
  exact ⟨L, .refl _⟩
 | E :: L, k + 1, h => by
  obtain ⟨R, h⟩ := perm_one k (by simpa using h)
  exact ⟨E :: R, (h.cons E).trans (.swap _ _ _)⟩
theorem perm_two {α : Type} {L : List α} {A B : α} (i j : Nat) (hi : L[i]? = some A) (hj : L[j]? = some B) (hij : i ≠ j) : ∃ R, L.Perm (A :: B :: R) := by
 induction L generalizing i j with
 | nil => simp at hi
 | cons C L ih =>
  cases i with
  | zero =>
   cases j with
   | zero => exact absurd rfl hij
   | succ j =>
    obtain ⟨R, h⟩ := perm_one j (by simpa using hj)
    simp at hi
    subst hi
    exact ⟨R, h.cons C⟩
  | succ i =>
   cases j with
   | zero =>
    obtain ⟨R, h⟩ := perm_one i (by simpa using hi)
    simp at hj
    subst hj
    exact ⟨R, (h.cons C).trans (.swap _ _ _)⟩
   | succ j =>
    obtain ⟨R, h⟩ := ih i j (by simpa using hi) (by simpa using hj) (by omega)
    exact ⟨C :: R, (h.cons C).trans ((List.Perm.swap A C _).trans ((List.Perm.swap B C _).cons A))⟩
section
variable {w : World} {L F : List Piece} {kt b n : Nat} {f : Int → Option Value} {σ : Fr} {op : Oper}
theorem MnC.lookV {K : Value → Prop} (i : Nat) (hi : L[i]? = some (MapP kt b n f)) (m x : Operand) (t e : TypeId) (hop : op.op = .lookup t m x false) (hk : Tryz.prog.underlying kt = some (.int .i64)) (ht : Tryz.prog.underlying t = some (.map kt e)) {z : Value} (hz : ∀ w, (zeroValue e).run Tryz.prog w = .ok z w)
  (c : Int) (hc : (Lit.int .i64 c).wf = true) (hm : ev σ m = .map (some b)) (hx : ev σ x = .int .i64 c) (V : Value) (hV : (f c).getD z = V) (k : K V) : MnC Tryz.prog (fun w => SL w L) σ op K := by
 subst hV
 exact MnC.look i hi m x t e hop hk ht hz c hc hm hx k
theorem Mn.lookV {K : Value → World → Prop} (H : SL w L) (i : Nat) (hi : L[i]? = some (MapP kt b n f)) (m x : Operand) (t e : TypeId) (hop : op.op = .lookup t m x false) (hk : Tryz.prog.underlying kt = some (.int .i64)) (ht : Tryz.prog.underlying t = some (.map kt e)) {z : Value} (hz : ∀ w, (zeroValue e).run Tryz.prog w = .ok z w)
  (c : Int) (hc : (Lit.int .i64 c).wf = true) (hm : ev σ m = .map (some b)) (hx : ev σ x = .int .i64 c) (V : Value) (hV : (f c).getD z = V) (k : K V w) : Mn Tryz.prog σ op w K := by
 subst hV
 exact Mn.look H i hi m x t e hop hk ht hz c hc hm hx k
theorem key_wf {c : Int} (h0 : -9223372036854775808 ≤ c) (h1 : c ≤ 9223372036854775807) : (Lit.int .i64 c).wf = true := by
 show (decide ((-9223372036854775808 : Int) ≤ c) && decide (c ≤ (9223372036854775807 : Int))) = true
 rw [decide_eq_true h0, decide_eq_true h1]
 rfl
end
section
variable {w : World} {L F : List Piece} {A B : Piece}
theorem perm_erase {α : Type} : ∀ (L : List α) (k : Nat) (h : k < L.length), (L[k] :: L.eraseIdx k).Perm L
 | a :: L, 0, _ => .refl _
 | a :: L, k + 1, h => (List.Perm.swap a (L[k]'(by simpa using h)) (L.eraseIdx k)).trans ((perm_erase L k (by simpa using h)).cons a)
theorem perm_set {α : Type} (x : α) : ∀ (L : List α) (k : Nat) (h : k < L.length), (x :: L.eraseIdx k).Perm (L.set k x)
 | a :: L, 0, _ => .refl _
 | a :: L, k + 1, h => (List.Perm.swap a x (L.eraseIdx k)).trans ((perm_set x L k (by simpa using h)).cons a)
theorem allq_take (k : Nat) (hk : L[k]? = some A) (H : SL w (all L :: F)) : SL w (A :: all (L.eraseIdx k) :: F) := by
 obtain ⟨hlt, rfl⟩ := List.getElem?_eq_some_iff.1 hk
 have h := (SL.all.1 H).perm ((perm_erase L k hlt).symm.append_right F)
 rw [List.cons_append] at h
 exact h.under (fun S h' => SLs.app.1 h')
theorem allq_put (k : Nat) (hk : k < L.length) (H : SL w (B :: all (L.eraseIdx k) :: F)) : SL w (all (L.set k B) :: F) := by
 refine SL.all.2 ?_
 have h : SL w (L.eraseIdx k ++ B :: F) := SL.all.1 H.up1
 have h3 : SL w (B :: (L.eraseIdx k ++ F)) := h.perm List.perm_middle
 refine h3.perm ?_
 rw [← List.cons_append]
 exact (perm_set B L k hk).append_right F
end
end Go.Proofs.YtoamjodmidbmbaaGreatDoor
namespace Go.Proofs.YtoamjodmidbmbaaGreatDoor
open Go.RowKit
structure EvA (A : Piece) (b off : Nat) (l : List Ev) : Prop where
 at_ : ∀ (S : Nat → Prop) (w : World), A.on S w → ∀ (j : Nat) (e : Ev), l[j]? = some e → ∀ (k : Nat) (v : Value), e.cells[k]? = some v → w.cell? ⟨b, off + j * 8 + k, none⟩ = some v
theorem Ev.cells_len (e : Ev) : e.cells.length = 8 := rfl
section
variable {w : World} {L F : List Piece} {A : Piece} {b off : Nat} {l : List Ev} {e : Ev} {v : Value} {K : Value → Prop}
theorem SL.ldE (H : SL w L) (i : Nat) (hi : L[i]? = some A) (hA : EvA A b off l) (j k : Nat) (hj : l[j]? = some e) (hk : e.cells[k]? = some v) (h : K v) : Ld w ⟨b, off + j * 8 + k, none⟩ K := by
 obtain ⟨T, _, hT⟩ := SLs.at i H hi
 exact Ld.by (hA.at_ T w hT j e hj k v hk) h
theorem LdC.E (i : Nat) (hi : L[i]? = some A) (hA : EvA A b off l) (j k : Nat) (hj : l[j]? = some e) (hk : e.cells[k]? = some v) (h : K v) : LdC (fun w => SL w L) ⟨b, off + j * 8 + k, none⟩ K :=
 LdC.by (fun w H => by
  obtain ⟨T, _, hT⟩ := SLs.at i H hi
  exact hA.at_ T w hT j e hj k v hk) h
theorem EvA.of_rd {a : Option Addr} (h : ∀ (S : Nat → Prop) (w : World), A.on S w → Rd w 8 a l.length (l.flatMap Ev.cells)) (ha : a = some ⟨b, off, none⟩) : EvA A b off l := by
 refine ⟨fun S w hS j e hj k v hk => ?_⟩
 obtain ⟨hlt, rfl⟩ := List.getElem?_eq_some_iff.1 hj
 obtain ⟨b', off', h1, h2⟩ := (h S w hS).2.2 (by omega)
 rw [ha] at h1
 injection h1 with h1
 injection h1 with h1 h3
 subst h1 h3
 have hk8 : k < 8 := by
  rcases Nat.lt_or_ge k 8 with h | h
  ·exact h
  ·rw [List.getElem?_eq_none (by rw [Ev.cells_len]; exact h)] at hk
   cases hk
 have := flat_get Ev.cells 8 Ev.cells_len l j k hk8 hlt
 rw [hk] at this
 have := h2 _ _ this
 rw [← Nat.add_assoc] at this
 exact this
theorem EvA.slc {te c : Nat} : EvA (Slc te 8 (.slice (some ⟨b, 0, none⟩) l.length c) l.length (l.flatMap Ev.cells)) b 0 l := by
 refine EvA.of_rd (a := some ⟨b, 0, none⟩) (fun S w h => Rd.of_own h.1) rfl
theorem EvA.row {t : Nat} {cs : Array Value} (hcs : cs.toList = l.flatMap Ev.cells) : EvA (row b cs t) b 0 l := by
 refine ⟨fun S w hS j e hj k v hk => ?_⟩
 obtain ⟨hlt, rfl⟩ := List.getElem?_eq_some_iff.1 hj
 have hk8 : k < 8 := by
  rcases Nat.lt_or_ge k 8 with h | h
  ·exact h
  ·rw [List.getElem?_eq_none (by rw [Ev.cells_len]; exact h)] at hk
   cases hk
 have := flat_get Ev.cells 8 Ev.cells_len l j k hk8 hlt
 rw [hk, ← hcs] at this
 rw [Nat.zero_add]
 exact row_cell hS.2 _ (by simpa using this)
end
theorem eqf_int {P : Program} {f : Field} {fs : List Field} {d : Nat} {xs ys : Array Value} {a b : Int} {w : World} (hn : f.name ≠ "_") (pa : (part f.type xs f.offset).run P w = .ok (.int .i64 a) w) (pb : (part f.type ys f.offset).run P w = .ok (.int .i64 b) w) (hu : P.underlying f.type = some (.int .i64)) :
  (Op.eqFields (d + 1) xs ys (f :: fs)).run P w = if a = b then (Op.eqFields (d + 1) xs ys fs).run P w else .ok false w := by
 simp only [Op.eqFields, if_pos hn, Sem.run_bind, pa, pb, Result.andThen_ok, run_equalIn_int w d _ _ _ a b hu]
 by_cases h : a = b
 ·subst h
  simp
 ·simp [h]
theorem eqf_bool {P : Program} {f : Field} {fs : List Field} {d : Nat} {xs ys : Array Value} {a b : Bool} {w : World} (hn : f.name ≠ "_") (pa : (part f.type xs f.offset).run P w = .ok (.bool a) w) (pb : (part f.type ys f.offset).run P w = .ok (.bool b) w) (hu : P.underlying f.type = some .bool) :
  (Op.eqFields (d + 1) xs ys (f :: fs)).run P w = if a = b then (Op.eqFields (d + 1) xs ys fs).run P w else .ok false w := by
 simp only [Op.eqFields, if_pos hn, Sem.run_bind, pa, pb, Result.andThen_ok, run_equalIn_bool' w d _ a b hu]
 by_cases h : a = b
 ·subst h
  simp
 ·simp [h]
set_option maxRecDepth 100000 in
theorem run_eq_ev (e f : Ev) (w : World) : (binOp .eql 53 e.agg f.agg).run Tryz.prog w = .ok (.bool (decide (e = f))) w := by
 obtain ⟨e1, e2, e3, e4, e5, e6, e7, e8⟩ := e
 obtain ⟨f1, f2, f3, f4, f5, f6, f7, f8⟩ := f
 have hf : Tryz.prog.underlying 53 = some (.struct (Tryz.prog.fieldsOf 53)) := by kernel_rfl
 simp only [Ev.agg]
 rw [run_eql_struct, run_equalIn_agg w 9999 _ _ _ hf (by kernel_rfl)]
 obtain ⟨g1, g2, g3, g4, g5, g6, g7, g8, hl, k⟩ : ∃ g1 g2 g3 g4 g5 g6 g7 g8, (Tryz.prog.fieldsOf 53).toList = [g1, g2, g3, g4, g5, g6, g7, g8] ∧ (Tryz.prog.fieldsOf 53).toList.map (fun f => (f.name != "_", f.type, f.offset)) = [(true, 3, 0), (true, 3, 1), (true, 3, 2), (true, 3, 3), (true, 3, 4), (true, 3, 5), (true, 4, 6), (true, 4, 7)] :=
  ⟨_, _, _, _, _, _, _, _, rfl, by kernel_rfl⟩
 rw [hl] at k ⊢
 simp only [List.map_cons, List.map_nil, List.cons.injEq, Prod.mk.injEq, bne_iff_ne, ne_eq, and_true] at k
 obtain ⟨⟨n1, t1, o1⟩, ⟨n2, t2, o2⟩, ⟨n3, t3, o3⟩, ⟨n4, t4, o4⟩, ⟨n5, t5, o5⟩, ⟨n6, t6, o6⟩, ⟨n7, t7, o7⟩, ⟨n8, t8, o8⟩⟩ := k
 have hi : Tryz.prog.underlying 3 = some (.int .i64) := by kernel_rfl
 have hb : Tryz.prog.underlying 4 = some .bool := by kernel_rfl
 rw [eqf_int (a := e1) (b := f1) n1 (by rw [t1, o1]; kernel_rfl) (by rw [t1, o1]; kernel_rfl) (by rw [t1]; exact hi)]
 rw [eqf_int (a := e2) (b := f2) n2 (by rw [t2, o2]; kernel_rfl) (by rw [t2, o2]; kernel_rfl) (by rw [t2]; exact hi)]
 rw [eqf_int (a := e3) (b := f3) n3 (by rw [t3, o3]; kernel_rfl) (by rw [t3, o3]; kernel_rfl) (by rw [t3]; exact hi)]
 rw [eqf_int (a := e4) (b := f4) n4 (by rw [t4, o4]; kernel_rfl) (by rw [t4, o4]; kernel_rfl) (by rw [t4]; exact hi)]
 rw [eqf_int (a := e5) (b := f5) n5 (by rw [t5, o5]; kernel_rfl) (by rw [t5, o5]; kernel_rfl) (by rw [t5]; exact hi)]
 rw [eqf_int (a := e6) (b := f6) n6 (by rw [t6, o6]; kernel_rfl) (by rw [t6, o6]; kernel_rfl) (by rw [t6]; exact hi)]
 rw [eqf_bool (a := e7) (b := f7) n7 (by rw [t7, o7]; kernel_rfl) (by rw [t7, o7]; kernel_rfl) (by rw [t7]; exact hb)]
 rw [eqf_bool (a := e8) (b := f8) n8 (by rw [t8, o8]; kernel_rfl) (by rw [t8, o8]; kernel_rfl) (by rw [t8]; exact hb)]
 have he : (Op.eqFields 9999 #[Value.int .i64 e1, .int .i64 e2, .int .i64 e3, .int .i64 e4, .int .i64 e5, .int .i64 e6, .bool e7, .bool e8] #[Value.int .i64 f1, .int .i64 f2, .int .i64 f3, .int .i64 f4, .int .i64 f5, .int .i64 f6, .bool f7, .bool f8] []).run Tryz.prog w = .ok true w := rfl
 simp only [Ev.mk.injEq]
 by_cases h1 : e1 = f1 <;> by_cases h2 : e2 = f2 <;> by_cases h3 : e3 = f3 <;> by_cases h4 : e4 = f4 <;> by_cases h5 : e5 = f5 <;> by_cases h6 : e6 = f6 <;> by_cases h7 : e7 = f7 <;> by_cases h8 : e8 = f8 <;> first | rfl | simp [h1, h2, h3, h4, h5, h6, h7, h8, he, Op.eqFields]
theorem exec_eq_ev {σ : Fr} {op : Oper} (e f : Ev) (x y : Operand) (ty : Nat) (hop : op.op = .binOp .eql 53 x y ty) (hx : ev σ x = e.agg) (hy : ev σ y = f.agg) (w : World) : (execOp (ev σ) op).run Tryz.prog w = .ok (.value (.bool (decide (e = f)))) w := by
 have hg := run_eqGuard_agg (P := Tryz.prog) w .eql 53 x y e.cells.toArray f.cells.toArray (by kernel_rfl)
 have h1 : e.agg = .agg e.cells.toArray := rfl
 have h2 : f.agg = .agg f.cells.toArray := rfl
 have h3 := run_eq_ev e f w
 rw [h1, h2] at h3
 simp only [execOp, hop, hx, hy, h1, h2, Sem.run_bind, hg, h3, Result.andThen_ok, Sem.run_pure]
theorem Mn.eqEv {σ : Fr} {op : Oper} {w : World} {K : Value → World → Prop} (e f : Ev) (x y : Operand) (ty : Nat) (hop : op.op = .binOp .eql 53 x y ty) (hx : ev σ x = e.agg) (hy : ev σ y = f.agg) (b : Bool) (hb : decide (e = f) = b) (k : K (.bool b) w) : Mn Tryz.prog σ op w K := by
 subst hb
 exact Mn.by (exec_eq_ev e f x y ty hop hx hy w) k
section
variable {w : World} {L : List Piece} {A : Piece} {b off : Nat} {l : List Ev} {a0 a1 a2 a3 a4 a5 : Int} {a6 a7 : Bool}
theorem SL.ldEv {K : Value → Value → Value → Value → Value → Value → Value → Value → Prop} (H : SL w L) (i : Nat) (hi : L[i]? = some A) (hA : EvA A b off l) (j : Nat) (hj : l[j]? = some ⟨a0, a1, a2, a3, a4, a5, a6, a7⟩)
  (k : K (.int .i64 a0) (.int .i64 a1) (.int .i64 a2) (.int .i64 a3) (.int .i64 a4) (.int .i64 a5) (.bool a6) (.bool a7)) :
  Ld w ⟨b, off + j * 8 + 0, none⟩ fun v0 => Ld w ⟨b, off + j * 8 + 1, none⟩ fun v1 => Ld w ⟨b, off + j * 8 + 2, none⟩ fun v2 => Ld w ⟨b, off + j * 8 + 3, none⟩ fun v3 => Ld w ⟨b, off + j * 8 + 4, none⟩ fun v4 => Ld w ⟨b, off + j * 8 + 5, none⟩ fun v5 => Ld w ⟨b, off + j * 8 + 6, none⟩ fun v6 => Ld w ⟨b, off + j * 8 + 7, none⟩ fun v7 => K v0 v1 v2 v3 v4 v5 v6 v7 :=
 H.ldE i hi hA j 0 hj rfl (H.ldE i hi hA j 1 hj rfl (H.ldE i hi hA j 2 hj rfl (H.ldE i hi hA j 3 hj rfl (H.ldE i hi hA j 4 hj rfl (H.ldE i hi hA j 5 hj rfl (H.ldE i hi hA j 6 hj rfl (H.ldE i hi hA j 7 hj rfl k)))))))
theorem LdC.ev {K : Value → Value → Value → Value → Value → Value → Value → Value → Prop} (i : Nat) (hi : L[i]? = some A) (hA : EvA A b off l) (j : Nat) (hj : l[j]? = some ⟨a0, a1, a2, a3, a4, a5, a6, a7⟩)
  (k : K (.int .i64 a0) (.int .i64 a1) (.int .i64 a2) (.int .i64 a3) (.int .i64 a4) (.int .i64 a5) (.bool a6) (.bool a7)) :
  LdC (fun w => SL w L) ⟨b, off + j * 8 + 0, none⟩ fun v0 => LdC (fun w => SL w L) ⟨b, off + j * 8 + 1, none⟩ fun v1 => LdC (fun w => SL w L) ⟨b, off + j * 8 + 2, none⟩ fun v2 => LdC (fun w => SL w L) ⟨b, off + j * 8 + 3, none⟩ fun v3 => LdC (fun w => SL w L) ⟨b, off + j * 8 + 4, none⟩ fun v4 => LdC (fun w => SL w L) ⟨b, off + j * 8 + 5, none⟩ fun v5 => LdC (fun w => SL w L) ⟨b, off + j * 8 + 6, none⟩ fun v6 => LdC (fun w => SL w L) ⟨b, off + j * 8 + 7, none⟩ fun v7 => K v0 v1 v2 v3 v4 v5 v6 v7 :=
 LdC.E i hi hA j 0 hj rfl (LdC.E i hi hA j 1 hj rfl (LdC.E i hi hA j 2 hj rfl (LdC.E i hi hA j 3 hj rfl (LdC.E i hi hA j 4 hj rfl (LdC.E i hi hA j 5 hj rfl (LdC.E i hi hA j 6 hj rfl (LdC.E i hi hA j 7 hj rfl k)))))))
end
end Go.Proofs.YtoamjodmidbmbaaGreatDoor
namespace Go.Proofs.YtoamjodmidbmbaaGreatDoor
open Go.RowKit Go.ChangeMaps
section
variable {P : Program} {w : World} {F L : List Piece} {te sz n c : Nat} {xs : List Value} {v : Value} {a : Option Addr} {σ : Fr} {op : Oper} {K : Value → World → Prop}
theorem retC {fn : Func} {R : Ending → World → Prop} {t ty b te : Nat} {cs : Array Value} (H : SL w L) (i : Nat) (hi : L[i]? = some (row b cs te)) (hr : fn.results = #[.cell t ty]) (hv : σ t = .pointer (some ⟨b, 0, none⟩))
  (hd : (match P.underlying ty with | some (.struct _) => true | some (.array _ _) => true | _ => false) = true) (hs : (P.info? ty).map (·.size) = some cs.size) (h : R (.returned (.agg cs)) w) : RetOf P fn R σ w := by
 cases hu : P.underlying ty with
 | none => rw [hu] at hd; cases hd
 | some d =>
  rw [hu] at hd
  cases d <;> first | cases hd; done | exact ⟨⟨_, fun a ha => results_cell_row hr a.tmps w b te cs (0, 0) _ (by rw [ha, hv]) (H.at i hi) hu rfl hs, h⟩⟩
theorem run_head {t : Nat} (x h : Operand) (hop : op.op = .slice t x none (some h) none) (ht : P.underlying t = some (.slice te)) (hsz : (P.info? te).map (·.size) = some sz) {i : Nat} (hi : i ≤ c)
  (hx : ev σ x = .slice a n c) (hh : ev σ h = .int .i64 (i : Int)) (w : World) : (execOp (ev σ) op).run P w = .ok (.value (.slice a i c)) w := by
 obtain ⟨inf, hinf, hs⟩ := Option.map_eq_some_iff.1 hsz
 have hle : (i : Int) ≤ (c : Int) := by omega
 have ha : (if c = 0 then a else a.map (·.add (0 * inf.size))) = a := by
  split
  ·rfl
  ·cases a with
   | none => rfl
   | some a =>
    obtain ⟨b, o, s⟩ := a
    simp [Addr.add]
 rw [Nat.zero_mul] at ha
 simp [execOp, hop, hx, hh, Instr.sliceAt, Instr.slice, run_underlying ht, Instr.sliceBounds, Instr.sliceBound, asIntOf, hle, sizeOf, typeInfo, hinf, Result.andThen, hi, ha]
theorem Mn.head (x h : Operand) (t : Nat) (hop : op.op = .slice t x none (some h) none) (ht : P.underlying t = some (.slice te)) (hsz : (P.info? te).map (·.size) = some sz) (i : Nat) (hi : i ≤ c)
  (hx : ev σ x = .slice a n c) (hh : ev σ h = .int .i64 (i : Int)) (k : K (.slice a i c) w) : Mn P σ op w K :=
 Mn.by (run_head x h hop ht hsz hi hx hh w) k
theorem Mn.tailS (H : SL w (Slc te sz v (n + 1) xs :: F)) (x l : Operand) (t : Nat) (hop : op.op = .slice t x (some l) none none) (ht : P.underlying t = some (.slice te)) (hsz : (P.info? te).map (·.size) = some sz)
  (hx : ev σ x = v) (hl : ev σ l = .int .i64 1) (k : ∀ a c, (∀ (w' : World) (L : List Piece) (i : Nat), SL w' L → L[i]? = some (Slc te sz v (n + 1) xs) → Rd w' sz a n (xs.drop sz)) → K (.slice a n c) w) : Mn P σ op w K := by
 obtain ⟨S, _, h, _⟩ := H.on
 obtain ⟨hlen, h2⟩ := h
 rcases h2 with ⟨rfl, h0⟩ | ⟨g, cap, cur, rfl, _, hg, hnc, hcm, hcs, htake⟩
 ·omega
 ·refine Mn.by (run_tail (lo := 0) (n := n + 1) (c := cap) x l hop ht hsz (by omega) hnc hx hl w) ?_
  show K (.slice (if cap = 1 then _ else _) (n + 1 - 1) (cap - 1)) w
  rw [Nat.add_sub_cancel]
  refine k _ _ (fun w' L i H' hi => ?_)
  obtain ⟨T, _, hT, _⟩ := SLs.at i H' hi
  refine ⟨by rw [List.length_drop, hlen, Nat.succ_mul]; omega, by omega, fun hn => ?_⟩
  have hc1 : cap ≠ 1 := by omega
  rw [if_neg hc1]
  refine ⟨g, 0 + sz, by simp only [Option.map_some, Addr_add], fun j u hu => ?_⟩
  rw [List.getElem?_drop] at hu
  have := own_cell hT hu
  rw [Nat.zero_add]
  exact this
theorem SL.appF (H : SL w (Slc te sz v n xs :: F)) (s x : Operand) (t : TypeId) (z : Value) (bytes : Nat)
  (hop : op.op = .call { callee := .builtin .append, args := #[s, x], argTypes := #[t, t] })
  (ht : P.underlying t = some (.slice te)) (hinfo : (P.info? te).map (fun i => (i.zero, i.size, i.bytes)) = some (some z, sz, bytes)) (hz : z.cells.size = sz) (hs0 : 0 < sz)
  (hs : ev σ s = v) (A : Option Addr) (m cap : Nat) (news : List Value) (hx : ev σ x = .slice A m cap) (hr : Rd w sz A m news) (h1 : news.all Value.oneCell' = true) (hn : n + m < 1000000000) (hl : bytes ≤ 1000)
  (k : ∀ a c w', SL w' (Slc te sz (.slice a (n + m) c) (n + m) (xs ++ news) :: F) → K (.slice a (n + m) c) w') : Mn P σ op w K :=
 SL.app H s x t z bytes hop ht hinfo hz hs0 hs A m cap news hx hr h1 hn hl (fun v' w' H' => by
  obtain ⟨S, _, h, _⟩ := H'.on
  obtain ⟨a, c, rfl⟩ := own_form h
  exact k a c w' H')
theorem SL.appNil (H : SL w F) (s x : Operand) (t : TypeId) (z : Value) (bytes : Nat)
  (hop : op.op = .call { callee := .builtin .append, args := #[s, x], argTypes := #[t, t] })
  (ht : P.underlying t = some (.slice te)) (hinfo : (P.info? te).map (fun i => (i.zero, i.size, i.bytes)) = some (some z, sz, bytes)) (hz : z.cells.size = sz) (hs0 : 0 < sz)
  (hs : ev σ s = .slice none 0 0) (A : Option Addr) (m cap : Nat) (news : List Value) (hx : ev σ x = .slice A m cap) (hr : Rd w sz A m news) (h1 : news.all Value.oneCell' = true) (hn : m < 1000000000) (hl : bytes ≤ 1000)
  (k : ∀ a c w', SL w' (Slc te sz (.slice a m c) m news :: F) → K (.slice a m c) w') : Mn P σ op w K :=
 SL.appF (SL.slcNil te sz H) s x t z bytes hop ht hinfo hz hs0 hs A m cap news hx hr h1 (by omega) hl (fun a c w' H' => by
  rw [Nat.zero_add, List.nil_append] at H'
  rw [Nat.zero_add]
  exact k a c w' H')
theorem SL.slcForm (h : SL w (Slc te sz v n xs :: F)) : ∃ a c, v = .slice a n c := by
 obtain ⟨S, _, h, _⟩ := h.on
 exact own_form h
theorem SL.slcAddr (h : SL w (Slc te sz (.slice a n c) n xs :: F)) (hn : 0 < n) : ∃ g, a = some ⟨g, 0, none⟩ := by
 obtain ⟨S, _, h, _⟩ := h.on
 exact own_some h hn
end
section
variable {P : Program} {w : World} {F L : List Piece} {te sz n c : Nat} {xs : List Value} {v : Value} {σ : Fr} {op : Oper}
theorem exec_rem (x y : Operand) (t ty : Nat) (hop : op.op = .binOp .rem t x y ty) (a b : Int) (hx : ev σ x = .int .i64 a) (hy : ev σ y = .int .i64 b) (ha : 0 ≤ a) (hb : 0 < b) (w : World) : (execOp (ev σ) op).run P w = .ok (.value (.int .i64 (a % b))) w := by
 have h0 : b ≠ 0 := by omega
 have h1 : a.tmod b = a % b := Int.tmod_eq_emod_of_nonneg ha
 simp [execOp, hop, hx, hy, eqGuard, binOp, Op.intDiv, h0, h1, Result.andThen]
theorem Mn.rem {K : Value → World → Prop} (x y : Operand) (t ty : Nat) (hop : op.op = .binOp .rem t x y ty) (a b : Int) (hx : ev σ x = .int .i64 a) (hy : ev σ y = .int .i64 b) (ha : 0 ≤ a) (hb : 0 < b) (m : Int) (hm : a % b = m) (k : K (.int .i64 m) w) : Mn P σ op w K := by
 subst hm
 exact Mn.by (exec_rem x y t ty hop a b hx hy ha hb w) k
theorem MnC.rem {S : World → Prop} {K : Value → Prop} (x y : Operand) (t ty : Nat) (hop : op.op = .binOp .rem t x y ty) (a b : Int) (hx : ev σ x = .int .i64 a) (hy : ev σ y = .int .i64 b) (ha : 0 ≤ a) (hb : 0 < b) (m : Int) (hm : a % b = m) (k : K (.int .i64 m)) : MnC P S σ op K := by
 subst hm
 exact ⟨⟨_, fun w _ => exec_rem x y t ty hop a b hx hy ha hb w, k⟩⟩
theorem Mn.rest (H : SL w L) (i : Nat) (hi : L[i]? = some (Qu te sz v (n + 1) xs)) {K : Value → World → Prop} (x l : Operand) (t : Nat) (hop : op.op = .slice t x (some l) none none) (ht : P.underlying t = some (.slice te)) (hsz : (P.info? te).map (·.size) = some sz)
  (hx : ev σ x = v) (hl : ev σ l = .int .i64 1) (k : K (rest1 sz v) w) : Mn P σ op w K := by
 have h1 := H.one i hi
 obtain ⟨a, c, rfl⟩ := h1.quForm
 exact Mn.by (run_tail (lo := 0) x l hop ht hsz (by omega) h1.quLe hx hl w) k
end
theorem ints_snoc (a : List Int) (v : Int) : ints a ++ [.int .i64 v] = ints (a ++ [v]) := by simp [ints]
theorem ints_all (l : List Int) : (ints l).all Value.oneCell' = true := by
 rw [List.all_eq_true]
 intro v hv
 unfold ints at hv
 obtain ⟨i, _, rfl⟩ := List.mem_map.1 hv
 rfl
theorem ints_drop (l : List Int) (k : Nat) : (ints l).drop k = ints (l.drop k) := by simp [ints]
end Go.Proofs.YtoamjodmidbmbaaGreatDoor
namespace Go.Proofs.YtoamjodmidbmbaaGreatDoor
open Go.RowKit
set_option maxRecDepth 100000
end Go.Proofs.YtoamjodmidbmbaaGreatDoor
namespace Go.Proofs.YtoamjodmidbmbaaGreatDoor
open Go.RowKit
section
variable {w : World} {F : List Piece} {gs : List (Option Nat)} {M : List PipeM}
theorem take_rs (hM : M.length = gs.length) {i g : Nat} (h3 : gs[i]? = some (some g)) (H : SL w (RsP gs M :: F)) : SL w (RefP g (M.getD i (emptyM 0)) :: all ((List.zipWith (pieceO RefP) gs M).set i emp) :: F) := by
 have hi : i < M.length := by rw [hM]; exact (List.getElem?_eq_some_iff.1 h3).1
 rw [List.getD_eq_getElem?_getD, List.getElem?_eq_getElem hi]
 exact all_take (P := RefP) h3 (List.getElem?_eq_getElem hi) H
theorem put_rs (hM : M.length = gs.length) {i g : Nat} (h3 : gs[i]? = some (some g)) {y : PipeM} (H : SL w (RefP g y :: all ((List.zipWith (pieceO RefP) gs M).set i emp) :: F)) : SL w (RsP gs (M.set i y) :: F) := by
 have hi : i < M.length := by rw [hM]; exact (List.getElem?_eq_some_iff.1 h3).1
 exact all_put (P := RefP) h3 (List.getElem?_eq_getElem hi) H
set_option maxRecDepth 100000 in
set_option maxHeartbeats 1000000 in
theorem r_try {B : Piece} {b : Option Addr} {cb m n : Nat} (c : CaseM) (hM : M.length = gs.length) (hm : m = gs.length) (hB : Reader B 1 b m (pcs gs)) (hI : AllInv n M) (hn : n ≤ 1000000) (H : SL w (RsP gs M :: B :: F)) :
  Calls Tryz.prog 160 #[c.agg, .slice b m cb] w fun e w' => e = .returned (.tuple #[(tryF (oks gs) M c).1.1.agg, .int .i64 (tryF (oks gs) M c).1.2]) ∧ SL w' (RsP gs (tryF (oks gs) M c).2 :: B :: F) := by
 subst hm
 have k1 := fun (w' : World) (h : Rd w' 1 b gs.length (pcs gs)) => r_named (cap := cb) c.chan rfl h
 obtain ⟨R, hR⟩ : ∃ R, tryF (oks gs) M c = R := ⟨_, rfl⟩
 rw [hR]
 obtain ⟨⟨⟨y1, y2, y3, y4, ⟨zg, zc, zv⟩⟩, ye⟩, y⟩ := R
 obtain ⟨cs, cc, cv⟩ := c
 unfold GotM.agg CaseM.agg
 unfold tryF at hR
 dsimp only at k1 hR ⊢
 rcases nm_pos gs cc with ⟨h1, h2⟩ | ⟨i, g, h1, h2, h3, h4⟩
 ·rw [h2] at k1
  rw [h1] at hR
  unfold adr at k1
  simp only [Option.map, gzero, wzero, Prod.mk.injEq, GotM.mk.injEq, Wtr.mk.injEq] at k1 hR
  obtain ⟨⟨⟨rfl, rfl, rfl, rfl, rfl, rfl, rfl⟩, rfl⟩, rfl⟩ := hR
  have K1 := Lib.hid k1
  have HMM := Lib.hid hM
  clear k1 hM hI h1 h2
  go_enter Tryz.func160, Tryz.ntmps160
  go_wp2_with fail
  have H2 := (H.alloc (.cells #[.bool cs, .int .i64 cc, .int .i64 cv] 162)).alloc (.cells #[.bool false, .bool false, .bool false, .int .i64 0, .int .i64 0, .int .i64 0, .int .i64 0] 222)
  rw [size_alloc] at H2
  obtain ⟨bc, hbc⟩ : ∃ b, w.heap.size = b := ⟨_, rfl⟩
  obtain ⟨r, hr⟩ : ∃ b, bc + 1 = b := ⟨_, rfl⟩
  obtain ⟨W, hW⟩ : ∃ W, (w.alloc (.cells #[.bool cs, .int .i64 cc, .int .i64 cv] 162)).alloc (.cells #[.bool false, .bool false, .bool false, .int .i64 0, .int .i64 0, .int .i64 0, .int .i64 0] 222) = W := ⟨_, rfl⟩
  rw [hbc, hr, hW] at H2
  simp only [hW, hbc, hr]
  clear hbc hr hW
  obtain ⟨r0, r1, r2, r3, r4, r5, r6, rf⟩ := box7 (H2.at 0 rfl)
  obtain ⟨c0, c1, c2, cf⟩ := pew_cells (H2.at 1 rfl)
  have rl := lt_of_block (H2.at 0 rfl)
  have cl := lt_of_block (H2.at 1 rfl)
  obtain ⟨n1, n2⟩ := H2.ne 0 1 (by decide) rfl rfl
  refine (K1.out _ (H2.up3.read hB)).mono ?_
  rintro e w' ⟨rfl, rfl⟩
  go_wp2_with fail
  refine bodyPost_ret (v := .tuple #[.agg #[.bool false, .bool false, .bool false, .int .i64 0, .int .i64 0, .int .i64 0, .int .i64 0], .int .i64 0]) (by simp [results, Tryz.results160, go_sem, r0, r1, r2, r3, r4, r5, r6, rl, n1, n2]) rfl ⟨rfl, SL.tl (A := any r) ?_⟩
  have HE := H2.drop1.toAny
  repeat (first | with_reducible refine SL.scr ?_ _ _ | with_reducible refine SL.allocd ?_ _ | with_reducible exact HE)
 ·have hi : i < M.length := by rw [hM]; exact (List.getElem?_eq_some_iff.1 h3).1
  have hx := hI.get hi
  rw [h2] at k1
  rw [h1] at hR
  unfold adr at k1
  simp only [Option.map] at k1
  have K1 := Lib.hid k1
  have TK := Lib.hid (fun (w' : World) (F' : List Piece) (H : SL w' (RsP gs M :: F')) => take_rs hM h3 H)
  have PT := Lib.hid (fun (w' : World) (F' : List Piece) (y : PipeM) (H : SL w' (RefP g y :: all ((List.zipWith (pieceO RefP) gs M).set i emp) :: F')) => put_rs hM h3 H)
  cases cs with
  | true =>
   simp only [if_true, Prod.mk.injEq] at hR
   obtain ⟨hR1, hR2⟩ := hR
   have k2 := fun (w' : World) (F' : List Piece) (H : SL w' (RefP g (M.getD i (emptyM 0)) :: F')) => r_send cv (by have := hx.rcv.1; omega) (by have := hx.buf; have := hx.size; omega) (hx.cnt (by omega)) H
   rw [hR1] at k2
   obtain ⟨y', hy'⟩ : ∃ y', (sendF (M.getD i (emptyM 0)) cv).2 = y' := ⟨_, rfl⟩
   rw [hy'] at k2 hR2
   subst hR2
   unfold GotM.agg at k2
   dsimp only at k2
   have K2 := Lib.hid k2
   have HMM := Lib.hid hM
   clear k1 k2 hM hI h1 h2 h3 h4 hx hy' hR1
   go_enter Tryz.func160, Tryz.ntmps160
   go_wp2_with fail
   have H2 := (H.alloc (.cells #[.bool true, .int .i64 cc, .int .i64 cv] 162)).alloc (.cells #[.bool false, .bool false, .bool false, .int .i64 0, .int .i64 0, .int .i64 0, .int .i64 0] 222)
   rw [size_alloc] at H2
   obtain ⟨bc, hbc⟩ : ∃ b, w.heap.size = b := ⟨_, rfl⟩
   obtain ⟨r, hr⟩ : ∃ b, bc + 1 = b := ⟨_, rfl⟩
   obtain ⟨W, hW⟩ : ∃ W, (w.alloc (.cells #[.bool true, .int .i64 cc, .int .i64 cv] 162)).alloc (.cells #[.bool false, .bool false, .bool false, .int .i64 0, .int .i64 0, .int .i64 0, .int .i64 0] 222) = W := ⟨_, rfl⟩
   rw [hbc, hr, hW] at H2
   simp only [hW, hbc, hr]
   clear hbc hr hW
   obtain ⟨r0, r1, r2, r3, r4, r5, r6, rf⟩ := box7 (H2.at 0 rfl)
   obtain ⟨c0, c1, c2, cf⟩ := pew_cells (H2.at 1 rfl)
   have rl := lt_of_block (H2.at 0 rfl)
   have cl := lt_of_block (H2.at 1 rfl)
   obtain ⟨n1, n2⟩ := H2.ne 0 1 (by decide) rfl rfl
   refine (K1.out _ (H2.up3.read hB)).mono ?_
   rintro e w' ⟨rfl, rfl⟩
   go_wp2_with fail
   refine (K2.out _ _ (TK.out _ _ H2.up2)).mono ?_
   rintro e w1 ⟨rfl, H3'⟩
   have H3 := PT.out _ _ _ H3'
   clear r0 r1 r2 r3 r4 r5 r6 rf c0 c1 c2 cf rl cl n1 n2
   obtain ⟨r0, r1, r2, r3, r4, r5, r6, rf⟩ := box7 (H3.at 1 rfl)
   obtain ⟨c0, c1, c2, cf⟩ := pew_cells (H3.at 2 rfl)
   have rl := lt_of_block (H3.at 1 rfl)
   have cl := lt_of_block (H3.at 2 rfl)
   obtain ⟨n1, n2⟩ := H3.ne 1 2 (by decide) rfl rfl
   go_wp2_with fail
   refine bodyPost_ret (v := .tuple #[.agg #[.bool y1, .bool y2, .bool y3, .int .i64 y4, .int .i64 zg, .int .i64 zc, .int .i64 zv], .int .i64 ye]) (by simp [results, Tryz.results160, go_sem, r0, r1, r2, r3, r4, r5, r6, rl, n1, n2]) rfl ⟨rfl, SL.tl (A := any r) ?_⟩
   have HE := H3.drop2.up1.toAny
   repeat (first | with_reducible refine SL.scr ?_ _ _ | with_reducible refine SL.allocd ?_ _ | with_reducible exact HE)

  | false =>
   simp only [Bool.false_eq_true, if_false, Prod.mk.injEq] at hR
   obtain ⟨⟨hR1, rfl⟩, hR2⟩ := hR
   have k2 := fun (w' : World) (F' : List Piece) (H : SL w' (RefP g (M.getD i (emptyM 0)) :: F')) => r_recv (by have := hx.snd.1; omega) (by have := hx.buf; have := hx.size; omega) (hx.cnt (by omega)) H
   rw [hR1] at k2
   obtain ⟨y', hy'⟩ : ∃ y', (recvF (M.getD i (emptyM 0))).2 = y' := ⟨_, rfl⟩
   rw [hy'] at k2 hR2
   subst hR2
   unfold GotM.agg at k2
   dsimp only at k2
   have K2 := Lib.hid k2
   have HMM := Lib.hid hM
   clear k1 k2 hM hI h1 h2 h3 h4 hx hy' hR1
   go_enter Tryz.func160, Tryz.ntmps160
   go_wp2_with fail
   have H2 := (H.alloc (.cells #[.bool false, .int .i64 cc, .int .i64 cv] 162)).alloc (.cells #[.bool false, .bool false, .bool false, .int .i64 0, .int .i64 0, .int .i64 0, .int .i64 0] 222)
   rw [size_alloc] at H2
   obtain ⟨bc, hbc⟩ : ∃ b, w.heap.size = b := ⟨_, rfl⟩
   obtain ⟨r, hr⟩ : ∃ b, bc + 1 = b := ⟨_, rfl⟩
   obtain ⟨W, hW⟩ : ∃ W, (w.alloc (.cells #[.bool false, .int .i64 cc, .int .i64 cv] 162)).alloc (.cells #[.bool false, .bool false, .bool false, .int .i64 0, .int .i64 0, .int .i64 0, .int .i64 0] 222) = W := ⟨_, rfl⟩
   rw [hbc, hr, hW] at H2
   simp only [hW, hbc, hr]
   clear hbc hr hW
   obtain ⟨r0, r1, r2, r3, r4, r5, r6, rf⟩ := box7 (H2.at 0 rfl)
   obtain ⟨c0, c1, c2, cf⟩ := pew_cells (H2.at 1 rfl)
   have rl := lt_of_block (H2.at 0 rfl)
   have cl := lt_of_block (H2.at 1 rfl)
   obtain ⟨n1, n2⟩ := H2.ne 0 1 (by decide) rfl rfl
   refine (K1.out _ (H2.up3.read hB)).mono ?_
   rintro e w' ⟨rfl, rfl⟩
   go_wp2_with fail
   refine (K2.out _ _ (TK.out _ _ H2.up2)).mono ?_
   rintro e w1 ⟨rfl, H3'⟩
   have H3 := PT.out _ _ _ H3'
   clear r0 r1 r2 r3 r4 r5 r6 rf c0 c1 c2 cf rl cl n1 n2
   obtain ⟨r0, r1, r2, r3, r4, r5, r6, rf⟩ := box7 (H3.at 1 rfl)
   obtain ⟨c0, c1, c2, cf⟩ := pew_cells (H3.at 2 rfl)
   have rl := lt_of_block (H3.at 1 rfl)
   have cl := lt_of_block (H3.at 2 rfl)
   obtain ⟨n1, n2⟩ := H3.ne 1 2 (by decide) rfl rfl
   go_wp2_with fail
   refine bodyPost_ret (v := .tuple #[.agg #[.bool y1, .bool y2, .bool y3, .int .i64 y4, .int .i64 zg, .int .i64 zc, .int .i64 zv], .int .i64 0]) (by simp [results, Tryz.results160, go_sem, r0, r1, r2, r3, r4, r5, r6, rl, n1, n2]) rfl ⟨rfl, SL.tl (A := any r) ?_⟩
   have HE := H3.drop2.up1.toAny
   repeat (first | with_reducible refine SL.scr ?_ _ _ | with_reducible refine SL.allocd ?_ _ | with_reducible exact HE)
end
end Go.Proofs.YtoamjodmidbmbaaGreatDoor
