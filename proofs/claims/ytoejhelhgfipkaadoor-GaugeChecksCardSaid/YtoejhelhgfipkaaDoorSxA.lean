/- The walker's rules over pieces of memory. No Go in it. -/
import Derived.Test.YtoejhelhgfipkaaDoorSx
namespace Go.Proofs.YtoejhelhgfipkaaDoor
set_option linter.unusedVariables false
set_option linter.unusedSimpArgs false
open Go.RowKit

section
variable {P : Program} {w : World} {L F : List Piece} {A B C D E G : Piece} {g o : Nat} {cs : Array Value} {t : TypeId} {v : Value} {K : Value → Prop}

theorem Ld.by {a : Addr} (h : w.cell? a = some v) (k : K v) : Ld w a K := ⟨⟨v, h, k⟩⟩
theorem SL.ldi (H : SL w L) (i : Nat) (hi : L[i]? = some (row g cs t)) (hv : cs[o]? = some v) (k : K v) : Ld w ⟨g, o, none⟩ K := ⟨⟨v, row_cell (H.at i hi) o hv, k⟩⟩
theorem SL.ld0 (H : SL w (row g cs t :: F)) (hv : cs[o]? = some v) (k : K v) : Ld w ⟨g, o, none⟩ K := H.ldi 0 rfl hv k
theorem SL.ld1 (H : SL w (A :: row g cs t :: F)) (hv : cs[o]? = some v) (k : K v) : Ld w ⟨g, o, none⟩ K := H.ldi 1 rfl hv k
theorem SL.ld2 (H : SL w (A :: B :: row g cs t :: F)) (hv : cs[o]? = some v) (k : K v) : Ld w ⟨g, o, none⟩ K := H.ldi 2 rfl hv k
theorem SL.ld3 (H : SL w (A :: B :: C :: row g cs t :: F)) (hv : cs[o]? = some v) (k : K v) : Ld w ⟨g, o, none⟩ K := H.ldi 3 rfl hv k
theorem SL.ld4 (H : SL w (A :: B :: C :: D :: row g cs t :: F)) (hv : cs[o]? = some v) (k : K v) : Ld w ⟨g, o, none⟩ K := H.ldi 4 rfl hv k
theorem SL.ld5 (H : SL w (A :: B :: C :: D :: E :: row g cs t :: F)) (hv : cs[o]? = some v) (k : K v) : Ld w ⟨g, o, none⟩ K := H.ldi 5 rfl hv k

theorem LdC.by {S : World → Prop} {a : Addr} (h : ∀ w, S w → w.cell? a = some v) (k : K v) : LdC S a K := ⟨⟨v, h, k⟩⟩
theorem LdC.i (i : Nat) (hi : L[i]? = some (row g cs t)) (hv : cs[o]? = some v) (k : K v) : LdC (fun w => SL w L) ⟨g, o, none⟩ K := ⟨⟨v, fun w H => row_cell (SL.at H i hi) o hv, k⟩⟩
theorem LdC.l0 (hv : cs[o]? = some v) (k : K v) : LdC (fun w => SL w (row g cs t :: F)) ⟨g, o, none⟩ K := LdC.i 0 rfl hv k
theorem LdC.l1 (hv : cs[o]? = some v) (k : K v) : LdC (fun w => SL w (A :: row g cs t :: F)) ⟨g, o, none⟩ K := LdC.i 1 rfl hv k
theorem LdC.l2 (hv : cs[o]? = some v) (k : K v) : LdC (fun w => SL w (A :: B :: row g cs t :: F)) ⟨g, o, none⟩ K := LdC.i 2 rfl hv k
theorem LdC.l3 (hv : cs[o]? = some v) (k : K v) : LdC (fun w => SL w (A :: B :: C :: row g cs t :: F)) ⟨g, o, none⟩ K := LdC.i 3 rfl hv k
theorem LdC.l4 (hv : cs[o]? = some v) (k : K v) : LdC (fun w => SL w (A :: B :: C :: D :: row g cs t :: F)) ⟨g, o, none⟩ K := LdC.i 4 rfl hv k

theorem SLs.up7 {A0 A1 A2 A3 A4 A5 A6 Z : Piece} {S} (h : SLs w S (A0 :: A1 :: A2 :: A3 :: A4 :: A5 :: A6 :: Z :: F)) : SLs w S (Z :: A0 :: A1 :: A2 :: A3 :: A4 :: A5 :: A6 :: F) := (SLs.congr (fun _ => SLs.up6) h).swap
theorem SL.up7 {A0 A1 A2 A3 A4 A5 A6 Z : Piece} (h : SL w (A0 :: A1 :: A2 :: A3 :: A4 :: A5 :: A6 :: Z :: F)) : SL w (Z :: A0 :: A1 :: A2 :: A3 :: A4 :: A5 :: A6 :: F) := SLs.up7 h
theorem SLs.up8 {A0 A1 A2 A3 A4 A5 A6 A7 Z : Piece} {S} (h : SLs w S (A0 :: A1 :: A2 :: A3 :: A4 :: A5 :: A6 :: A7 :: Z :: F)) : SLs w S (Z :: A0 :: A1 :: A2 :: A3 :: A4 :: A5 :: A6 :: A7 :: F) := (SLs.congr (fun _ => SLs.up7) h).swap
theorem SL.up8 {A0 A1 A2 A3 A4 A5 A6 A7 Z : Piece} (h : SL w (A0 :: A1 :: A2 :: A3 :: A4 :: A5 :: A6 :: A7 :: Z :: F)) : SL w (Z :: A0 :: A1 :: A2 :: A3 :: A4 :: A5 :: A6 :: A7 :: F) := SLs.up8 h
theorem SLs.up9 {A0 A1 A2 A3 A4 A5 A6 A7 A8 Z : Piece} {S} (h : SLs w S (A0 :: A1 :: A2 :: A3 :: A4 :: A5 :: A6 :: A7 :: A8 :: Z :: F)) : SLs w S (Z :: A0 :: A1 :: A2 :: A3 :: A4 :: A5 :: A6 :: A7 :: A8 :: F) := (SLs.congr (fun _ => SLs.up8) h).swap
theorem SL.up9 {A0 A1 A2 A3 A4 A5 A6 A7 A8 Z : Piece} (h : SL w (A0 :: A1 :: A2 :: A3 :: A4 :: A5 :: A6 :: A7 :: A8 :: Z :: F)) : SL w (Z :: A0 :: A1 :: A2 :: A3 :: A4 :: A5 :: A6 :: A7 :: A8 :: F) := SLs.up9 h
theorem SLs.up10 {A0 A1 A2 A3 A4 A5 A6 A7 A8 A9 Z : Piece} {S} (h : SLs w S (A0 :: A1 :: A2 :: A3 :: A4 :: A5 :: A6 :: A7 :: A8 :: A9 :: Z :: F)) : SLs w S (Z :: A0 :: A1 :: A2 :: A3 :: A4 :: A5 :: A6 :: A7 :: A8 :: A9 :: F) := (SLs.congr (fun _ => SLs.up9) h).swap
theorem SL.up10 {A0 A1 A2 A3 A4 A5 A6 A7 A8 A9 Z : Piece} (h : SL w (A0 :: A1 :: A2 :: A3 :: A4 :: A5 :: A6 :: A7 :: A8 :: A9 :: Z :: F)) : SL w (Z :: A0 :: A1 :: A2 :: A3 :: A4 :: A5 :: A6 :: A7 :: A8 :: A9 :: F) := SLs.up10 h
theorem SLs.up11 {A0 A1 A2 A3 A4 A5 A6 A7 A8 A9 A10 Z : Piece} {S} (h : SLs w S (A0 :: A1 :: A2 :: A3 :: A4 :: A5 :: A6 :: A7 :: A8 :: A9 :: A10 :: Z :: F)) : SLs w S (Z :: A0 :: A1 :: A2 :: A3 :: A4 :: A5 :: A6 :: A7 :: A8 :: A9 :: A10 :: F) := (SLs.congr (fun _ => SLs.up10) h).swap
theorem SL.up11 {A0 A1 A2 A3 A4 A5 A6 A7 A8 A9 A10 Z : Piece} (h : SL w (A0 :: A1 :: A2 :: A3 :: A4 :: A5 :: A6 :: A7 :: A8 :: A9 :: A10 :: Z :: F)) : SL w (Z :: A0 :: A1 :: A2 :: A3 :: A4 :: A5 :: A6 :: A7 :: A8 :: A9 :: A10 :: F) := SLs.up11 h
theorem SLs.dn5 {A0 A1 A2 A3 A4 Z : Piece} {S} (h : SLs w S (Z :: A0 :: A1 :: A2 :: A3 :: A4 :: F)) : SLs w S (A0 :: A1 :: A2 :: A3 :: A4 :: Z :: F) := SLs.congr (fun _ => SLs.dn4) h.swap
theorem SL.dn5 {A0 A1 A2 A3 A4 Z : Piece} (h : SL w (Z :: A0 :: A1 :: A2 :: A3 :: A4 :: F)) : SL w (A0 :: A1 :: A2 :: A3 :: A4 :: Z :: F) := SLs.dn5 h
theorem SLs.dn6 {A0 A1 A2 A3 A4 A5 Z : Piece} {S} (h : SLs w S (Z :: A0 :: A1 :: A2 :: A3 :: A4 :: A5 :: F)) : SLs w S (A0 :: A1 :: A2 :: A3 :: A4 :: A5 :: Z :: F) := SLs.congr (fun _ => SLs.dn5) h.swap
theorem SL.dn6 {A0 A1 A2 A3 A4 A5 Z : Piece} (h : SL w (Z :: A0 :: A1 :: A2 :: A3 :: A4 :: A5 :: F)) : SL w (A0 :: A1 :: A2 :: A3 :: A4 :: A5 :: Z :: F) := SLs.dn6 h
theorem SLs.dn7 {A0 A1 A2 A3 A4 A5 A6 Z : Piece} {S} (h : SLs w S (Z :: A0 :: A1 :: A2 :: A3 :: A4 :: A5 :: A6 :: F)) : SLs w S (A0 :: A1 :: A2 :: A3 :: A4 :: A5 :: A6 :: Z :: F) := SLs.congr (fun _ => SLs.dn6) h.swap
theorem SL.dn7 {A0 A1 A2 A3 A4 A5 A6 Z : Piece} (h : SL w (Z :: A0 :: A1 :: A2 :: A3 :: A4 :: A5 :: A6 :: F)) : SL w (A0 :: A1 :: A2 :: A3 :: A4 :: A5 :: A6 :: Z :: F) := SLs.dn7 h
theorem SLs.dn8 {A0 A1 A2 A3 A4 A5 A6 A7 Z : Piece} {S} (h : SLs w S (Z :: A0 :: A1 :: A2 :: A3 :: A4 :: A5 :: A6 :: A7 :: F)) : SLs w S (A0 :: A1 :: A2 :: A3 :: A4 :: A5 :: A6 :: A7 :: Z :: F) := SLs.congr (fun _ => SLs.dn7) h.swap
theorem SL.dn8 {A0 A1 A2 A3 A4 A5 A6 A7 Z : Piece} (h : SL w (Z :: A0 :: A1 :: A2 :: A3 :: A4 :: A5 :: A6 :: A7 :: F)) : SL w (A0 :: A1 :: A2 :: A3 :: A4 :: A5 :: A6 :: A7 :: Z :: F) := SLs.dn8 h
theorem SLs.dn9 {A0 A1 A2 A3 A4 A5 A6 A7 A8 Z : Piece} {S} (h : SLs w S (Z :: A0 :: A1 :: A2 :: A3 :: A4 :: A5 :: A6 :: A7 :: A8 :: F)) : SLs w S (A0 :: A1 :: A2 :: A3 :: A4 :: A5 :: A6 :: A7 :: A8 :: Z :: F) := SLs.congr (fun _ => SLs.dn8) h.swap
theorem SL.dn9 {A0 A1 A2 A3 A4 A5 A6 A7 A8 Z : Piece} (h : SL w (Z :: A0 :: A1 :: A2 :: A3 :: A4 :: A5 :: A6 :: A7 :: A8 :: F)) : SL w (A0 :: A1 :: A2 :: A3 :: A4 :: A5 :: A6 :: A7 :: A8 :: Z :: F) := SLs.dn9 h
theorem SLs.dn10 {A0 A1 A2 A3 A4 A5 A6 A7 A8 A9 Z : Piece} {S} (h : SLs w S (Z :: A0 :: A1 :: A2 :: A3 :: A4 :: A5 :: A6 :: A7 :: A8 :: A9 :: F)) : SLs w S (A0 :: A1 :: A2 :: A3 :: A4 :: A5 :: A6 :: A7 :: A8 :: A9 :: Z :: F) := SLs.congr (fun _ => SLs.dn9) h.swap
theorem SL.dn10 {A0 A1 A2 A3 A4 A5 A6 A7 A8 A9 Z : Piece} (h : SL w (Z :: A0 :: A1 :: A2 :: A3 :: A4 :: A5 :: A6 :: A7 :: A8 :: A9 :: F)) : SL w (A0 :: A1 :: A2 :: A3 :: A4 :: A5 :: A6 :: A7 :: A8 :: A9 :: Z :: F) := SLs.dn10 h
theorem SLs.dn11 {A0 A1 A2 A3 A4 A5 A6 A7 A8 A9 A10 Z : Piece} {S} (h : SLs w S (Z :: A0 :: A1 :: A2 :: A3 :: A4 :: A5 :: A6 :: A7 :: A8 :: A9 :: A10 :: F)) : SLs w S (A0 :: A1 :: A2 :: A3 :: A4 :: A5 :: A6 :: A7 :: A8 :: A9 :: A10 :: Z :: F) := SLs.congr (fun _ => SLs.dn10) h.swap
theorem SL.dn11 {A0 A1 A2 A3 A4 A5 A6 A7 A8 A9 A10 Z : Piece} (h : SL w (Z :: A0 :: A1 :: A2 :: A3 :: A4 :: A5 :: A6 :: A7 :: A8 :: A9 :: A10 :: F)) : SL w (A0 :: A1 :: A2 :: A3 :: A4 :: A5 :: A6 :: A7 :: A8 :: A9 :: A10 :: Z :: F) := SLs.dn11 h

theorem Nw.by {K : Nat → World → Prop} {ob : Obj} (H : SL w L) (k : ∀ b w', SL w' (blk b ob :: L) → K b w') : Nw w ob K := ⟨k _ _ (H.alloc ob)⟩

theorem SL.sti {K : World → Prop} (H : SL w L) (i : Nat) (hi : L[i]? = some (row g cs t)) (ho : o < cs.size) (h1 : v.oneCell' = true) (k : K (w.setCell ⟨g, o, none⟩ v)) : St w ⟨g, o, none⟩ v K :=
  ⟨⟨⟨cs[o], row_cell (H.at i hi) o (by simp [ho])⟩, row_free (H.at i hi) o, h1, k⟩⟩
theorem Nw.as {K : Nat → World → Prop} {ob : Obj} (cs : Array Value) (t : Nat) (h : ob = .cells cs t (0, 0)) (H : SL w L) (k : ∀ b w', SL w' (row b cs t :: L) → K b w') : Nw w ob K := by
  subst h
  exact Nw.by H k
theorem SL.st0 {K : World → Prop} {cs' : Array Value} (H : SL w (row g cs t :: F)) (hc : cs.setIfInBounds o v = cs') (ho : Nat.blt o cs.size = true) (h1 : v.oneCell' = true) (k : ∀ w', SL w' (row g cs' t :: F) → K w') : St w ⟨g, o, none⟩ v K :=
  H.sti 0 rfl (by simpa [Nat.blt_eq] using ho) h1 (k _ (hc ▸ (H.set o v)))
theorem SL.st1 {A0 : Piece} {K : World → Prop} {cs' : Array Value} (H : SL w (A0 :: row g cs t :: F)) (hc : cs.setIfInBounds o v = cs') (ho : Nat.blt o cs.size = true) (h1 : v.oneCell' = true) (k : ∀ w', SL w' (A0 :: row g cs' t :: F) → K w') : St w ⟨g, o, none⟩ v K :=
  H.sti 1 rfl (by simpa [Nat.blt_eq] using ho) h1 (k _ (hc ▸ (H.up1.set o v).dn1))
theorem SL.st2 {A0 A1 : Piece} {K : World → Prop} {cs' : Array Value} (H : SL w (A0 :: A1 :: row g cs t :: F)) (hc : cs.setIfInBounds o v = cs') (ho : Nat.blt o cs.size = true) (h1 : v.oneCell' = true) (k : ∀ w', SL w' (A0 :: A1 :: row g cs' t :: F) → K w') : St w ⟨g, o, none⟩ v K :=
  H.sti 2 rfl (by simpa [Nat.blt_eq] using ho) h1 (k _ (hc ▸ (H.up2.set o v).dn2))
theorem SL.st3 {A0 A1 A2 : Piece} {K : World → Prop} {cs' : Array Value} (H : SL w (A0 :: A1 :: A2 :: row g cs t :: F)) (hc : cs.setIfInBounds o v = cs') (ho : Nat.blt o cs.size = true) (h1 : v.oneCell' = true) (k : ∀ w', SL w' (A0 :: A1 :: A2 :: row g cs' t :: F) → K w') : St w ⟨g, o, none⟩ v K :=
  H.sti 3 rfl (by simpa [Nat.blt_eq] using ho) h1 (k _ (hc ▸ (H.up3.set o v).dn3))
theorem SL.st4 {A0 A1 A2 A3 : Piece} {K : World → Prop} {cs' : Array Value} (H : SL w (A0 :: A1 :: A2 :: A3 :: row g cs t :: F)) (hc : cs.setIfInBounds o v = cs') (ho : Nat.blt o cs.size = true) (h1 : v.oneCell' = true) (k : ∀ w', SL w' (A0 :: A1 :: A2 :: A3 :: row g cs' t :: F) → K w') : St w ⟨g, o, none⟩ v K :=
  H.sti 4 rfl (by simpa [Nat.blt_eq] using ho) h1 (k _ (hc ▸ (H.up4.set o v).dn4))
theorem SL.st5 {A0 A1 A2 A3 A4 : Piece} {K : World → Prop} {cs' : Array Value} (H : SL w (A0 :: A1 :: A2 :: A3 :: A4 :: row g cs t :: F)) (hc : cs.setIfInBounds o v = cs') (ho : Nat.blt o cs.size = true) (h1 : v.oneCell' = true) (k : ∀ w', SL w' (A0 :: A1 :: A2 :: A3 :: A4 :: row g cs' t :: F) → K w') : St w ⟨g, o, none⟩ v K :=
  H.sti 5 rfl (by simpa [Nat.blt_eq] using ho) h1 (k _ (hc ▸ (H.up5.set o v).dn5))
theorem SL.st6 {A0 A1 A2 A3 A4 A5 : Piece} {K : World → Prop} {cs' : Array Value} (H : SL w (A0 :: A1 :: A2 :: A3 :: A4 :: A5 :: row g cs t :: F)) (hc : cs.setIfInBounds o v = cs') (ho : Nat.blt o cs.size = true) (h1 : v.oneCell' = true) (k : ∀ w', SL w' (A0 :: A1 :: A2 :: A3 :: A4 :: A5 :: row g cs' t :: F) → K w') : St w ⟨g, o, none⟩ v K :=
  H.sti 6 rfl (by simpa [Nat.blt_eq] using ho) h1 (k _ (hc ▸ (H.up6.set o v).dn6))
theorem SL.st7 {A0 A1 A2 A3 A4 A5 A6 : Piece} {K : World → Prop} {cs' : Array Value} (H : SL w (A0 :: A1 :: A2 :: A3 :: A4 :: A5 :: A6 :: row g cs t :: F)) (hc : cs.setIfInBounds o v = cs') (ho : Nat.blt o cs.size = true) (h1 : v.oneCell' = true) (k : ∀ w', SL w' (A0 :: A1 :: A2 :: A3 :: A4 :: A5 :: A6 :: row g cs' t :: F) → K w') : St w ⟨g, o, none⟩ v K :=
  H.sti 7 rfl (by simpa [Nat.blt_eq] using ho) h1 (k _ (hc ▸ (H.up7.set o v).dn7))
theorem SL.st8 {A0 A1 A2 A3 A4 A5 A6 A7 : Piece} {K : World → Prop} {cs' : Array Value} (H : SL w (A0 :: A1 :: A2 :: A3 :: A4 :: A5 :: A6 :: A7 :: row g cs t :: F)) (hc : cs.setIfInBounds o v = cs') (ho : Nat.blt o cs.size = true) (h1 : v.oneCell' = true) (k : ∀ w', SL w' (A0 :: A1 :: A2 :: A3 :: A4 :: A5 :: A6 :: A7 :: row g cs' t :: F) → K w') : St w ⟨g, o, none⟩ v K :=
  H.sti 8 rfl (by simpa [Nat.blt_eq] using ho) h1 (k _ (hc ▸ (H.up8.set o v).dn8))
theorem SL.st9 {A0 A1 A2 A3 A4 A5 A6 A7 A8 : Piece} {K : World → Prop} {cs' : Array Value} (H : SL w (A0 :: A1 :: A2 :: A3 :: A4 :: A5 :: A6 :: A7 :: A8 :: row g cs t :: F)) (hc : cs.setIfInBounds o v = cs') (ho : Nat.blt o cs.size = true) (h1 : v.oneCell' = true) (k : ∀ w', SL w' (A0 :: A1 :: A2 :: A3 :: A4 :: A5 :: A6 :: A7 :: A8 :: row g cs' t :: F) → K w') : St w ⟨g, o, none⟩ v K :=
  H.sti 9 rfl (by simpa [Nat.blt_eq] using ho) h1 (k _ (hc ▸ (H.up9.set o v).dn9))
theorem BB.k {b : Bool} {K : Bool → Prop} (k : K b) : BB b K := ⟨k⟩
theorem BB.yes {b : Bool} {K : Bool → Prop} (h : b = true) (k : K true) : BB b K := by rw [h]; exact ⟨k⟩
theorem BB.no {b : Bool} {K : Bool → Prop} (h : b = false) (k : K false) : BB b K := by rw [h]; exact ⟨k⟩
theorem BB.s {b : Bool} {K : Bool → Prop} (h : b = true → K true) (k : b = false → K false) : BB b K := by
  cases b
  · exact ⟨k rfl⟩
  · exact ⟨h rfl⟩
theorem BB.vr {b : Bool} {K : Bool → Prop} (h : ∀ q, b = q → K q) : BB b K := ⟨h b rfl⟩
/-- A comparison: both ways, its fact as a proposition. -/
theorem BB.d {p : Prop} [Decidable p] {K : Bool → Prop} (h : p → K true) (k : ¬ p → K false) : BB (decide p) K := BB.s (fun e => h (of_decide_eq_true e)) (fun e => k (of_decide_eq_false e))
theorem BB.e {a b : Int} {K : Bool → Prop} (h : a = b → K true) (k : a ≠ b → K false) : BB (a == b) K := BB.s (fun e => h (eq_of_beq e)) (fun e => k (beq_eq_false_iff_ne.1 e))
theorem BB.n {a b : Int} {K : Bool → Prop} (h : a ≠ b → K true) (k : a = b → K false) : BB (a != b) K := BB.s (fun e => h (bne_iff_ne.1 e)) (fun e => k (by simpa using e))
theorem IW.k {n : Int} {K : Int → Prop} (k : K n) : IW n K := ⟨k⟩
theorem IW.by {n m : Int} {K : Int → Prop} (h : n = m) (k : K m) : IW n K := by rw [h]; exact ⟨k⟩
theorem wrap_id {n : Int} (h0 : -9223372036854775808 ≤ n) (h1 : n ≤ 9223372036854775807) : IntKind.i64.wrap n = n := by
  unfold IntKind.wrap
  simp [IntKind.signed, IntKind.bits]
  omega
theorem Cn.yes {n : Nat} {t : Operand} {a b : Code} {σ : Fr} {K : Fr → World → Prop} {X : Nat → Fr → World → Prop} {R : Fr → World → Prop} {A B : Prop} (h : A) : CdX P n t a b σ w K X R (Cn (.bool true) A B) := ⟨⟨⟨true, rfl, fun _ => h, fun e => Bool.noConfusion e⟩⟩⟩
theorem Cn.no {n : Nat} {t : Operand} {a b : Code} {σ : Fr} {K : Fr → World → Prop} {X : Nat → Fr → World → Prop} {R : Fr → World → Prop} {A B : Prop} (h : B) : CdX P n t a b σ w K X R (Cn (.bool false) A B) := ⟨⟨⟨false, rfl, fun e => Bool.noConfusion e, fun _ => h⟩⟩⟩
theorem Cl.by {f : FuncId} {args : Array Value} {K : Value → World → Prop} (he : okEnter P f = true) {R : Ending → World → Prop} (h : Calls P f args w R) (k : ∀ e w', R e w' → ∃ v, e = .returned v ∧ K v w') : Cl P f args w K :=
  ⟨⟨he, h.mono k⟩⟩
theorem Cl.sl {f : FuncId} {args : Array Value} {K : Value → World → Prop} (he : okEnter P f = true) {M : List Piece} (h : Calls P f args w fun e w' => e = .returned v ∧ SL w' M) (k : ∀ w', SL w' M → K v w') : Cl P f args w K :=
  ⟨⟨he, h.mono fun e w' q => ⟨v, q.1, k w' q.2⟩⟩⟩
theorem Ix.by {e : TypeId} {a : Addr} {n : Nat} {i : Int} (j sz : Nat) (hs : (P.info? e).map (·.size) = some sz) (hi : i = (j : Int)) (hj : j < n) (k : K (.pointer (some (a.add (j * sz))))) : Ix P e a n i K := ⟨⟨j, sz, hi, hj, hs, k⟩⟩
theorem Mn.by {σ : Fr} {op : Oper} {K : Value → World → Prop} {v : Value} {w' : World} (h : (execOp (ev σ) op).run P w = .ok (.value v) w') (k : K v w') : Mn P σ op w K := ⟨⟨v, w', .inl h, k⟩⟩

/-- The end of a function with one result. -/
theorem ret1 {fn : Func} {τ : Nat} {σ : Fr} {R : Ending → World → Prop} (v : Value) (hr : fn.results = #[.tmp τ]) (hv : σ τ = v) (h : R (.returned v) w) : RetOf P fn R σ w :=
  ⟨⟨v, fun a ha => by rw [results_tmp hr, ha, hv], h⟩⟩
theorem ret2 {fn : Func} {τ υ : Nat} {σ : Fr} {R : Ending → World → Prop} (v u : Value) (hr : fn.results = #[.tmp τ, .tmp υ]) (hv : σ τ = v) (hu : σ υ = u) (h : R (.returned (.tuple #[v, u])) w) : RetOf P fn R σ w :=
  ⟨⟨_, fun a ha => by rw [results_tmp2 hr, ha, ha, hv, hu], h⟩⟩
theorem ret0 {fn : Func} {σ : Fr} {R : Ending → World → Prop} (hr : fn.results = #[]) (h : R (.returned (.tuple #[])) w) : RetOf P fn R σ w :=
  ⟨⟨_, fun a ha => by rw [results_none hr], h⟩⟩
end

theorem mixed : Tryd.prog.follows .mixedOrders = true := by kernel_rfl

end Go.Proofs.YtoejhelhgfipkaaDoor
