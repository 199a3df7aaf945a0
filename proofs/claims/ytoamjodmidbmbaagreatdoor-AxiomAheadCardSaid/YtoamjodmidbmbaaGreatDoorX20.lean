/- Texts of the proof. -/
import Derived.Test.YtoamjodmidbmbaaGreatDoorX19
import Derived.Test.YtoamjodmidbmbaaGreatDoorX05
import Derived.Laws.MakeOwn
import Derived.Laws.OwnMore
import Derived.Test.YtoamjodmidbmbaaGreatDoorX10
import Derived.Test.YtoamjodmidbmbaaGreatDoorX14
set_option linter.unusedVariables false
set_option linter.unusedSimpArgs false
namespace Go.Proofs.YtoamjodmidbmbaaGreatDoor
open Go.RowKit
set_option maxRecDepth 100000
theorem f_chk_nil {w : World} {F : List Piece} {la : Option Addr} {lc : Nat} (H : SL w F) : Calls Tryz.prog 41 #[.slice la 0 lc] w fun o w' => o = .returned (.agg #[.int .i64 0, .int .i64 0]) ∧ SL w' F := by
 refine calls_d (args := [_]) Tryz.func41 rfl ?_
 refine ⟨Nw.as #[.int .i64 0, .int .i64 0] 83 rfl H fun b2 w H => ?_⟩
 refine ⟨⟨den.loop (ι := Nat) [(3, 3), (6, 51)] (by kernel_rfl) (fun i => [(6, .int .i64 0)]) (fun i w => i = 0 ∧ SL w (row b2 #[.int .i64 0, .int .i64 0] 83 :: F)) (fun i => 0) 0 ⟨rfl, trivial⟩ ⟨rfl, H⟩ ?_⟩⟩
 rintro i s w ⟨rfl, H⟩
 refine ⟨BB.no rfl ?_⟩
 refine Cn.no (⟨BB.no rfl ?_⟩)
 refine Cn.no (⟨Mn.pure (.agg #[.int .i64 0, .int .i64 0]) (by kernel_rfl) ?_⟩)
 refine H.st0 (cs' := #[.int .i64 0, .int .i64 0]) rfl rfl rfl fun w H => ?_
 refine H.st0 (cs' := #[.int .i64 0, .int .i64 0]) rfl rfl rfl fun w H => ?_
 refine retC H 0 rfl rfl (by rfl) (by kernel_rfl) (by kernel_rfl) ?_
 exact ⟨rfl, H.tl⟩
theorem f_right_nil {w : World} {F : List Piece} {la : Option Addr} {lc : Nat} (H : SL w F) : Calls Tryz.prog 14 #[.slice la 0 lc] w fun o w' => o = .returned (.bool true) ∧ SL w' F := by
 refine calls_d (args := [_]) Tryz.func14 rfl ?_
 refine ⟨⟨Cl.s (f_chk_nil H) fun w H => ?_⟩⟩
 refine Nw.as #[.int .i64 0, .int .i64 0] 83 rfl H fun b3 w H => ?_
 refine H.st0 (cs' := #[.int .i64 0, .int .i64 0]) rfl rfl rfl fun w H => ?_
 refine H.st0 (cs' := #[.int .i64 0, .int .i64 0]) rfl rfl rfl fun w H => ?_
 refine ⟨H.ldi 0 rfl (v := .int .i64 0) rfl ?_⟩
 refine BB.yes rfl (ret1 (.bool true) rfl (by rfl) ?_)
 exact ⟨rfl, H.tl⟩
def refR (l : List Ev) (t f : Nat) : Nat → List Edg
 | 0 => []
 | r + 1 => refR l t f r ++ (if isF l f t (r + 1) = true then [⟨f, t, r + 1⟩] else [])
def refFr (l : List Ev) (t : Nat) : Nat → List Edg
 | 0 => []
 | f + 1 => refFr l t f ++ refR l t f 6
def refT (l : List Ev) : Nat → List Edg
 | 0 => []
 | t + 1 => refT l t ++ refFr l t t
theorem refR_len {l : List Ev} {t f : Nat} : ∀ {j : Nat}, (refR l t f j).length ≤ j
 | 0 => Nat.le_refl _
 | j + 1 => by
  have := refR_len (l := l) (t := t) (f := f) (j := j)
  rw [refR, List.length_append]
  split
  ·rw [List.length_cons, List.length_nil]; omega
  ·rw [List.length_nil]; omega
theorem refFr_len {l : List Ev} {t : Nat} : ∀ {f : Nat}, (refFr l t f).length ≤ 6 * f
 | 0 => Nat.le_refl _
 | f + 1 => by
  have := refFr_len (l := l) (t := t) (f := f)
  have := refR_len (l := l) (t := t) (f := f) (j := 6)
  rw [refFr, List.length_append]
  omega
theorem refT_len {l : List Ev} : ∀ {t : Nat}, t ≤ 100 → (refT l t).length ≤ 600 * t
 | 0, _ => Nat.le_refl _
 | t + 1, h => by
  have := refT_len (l := l) (t := t) (by omega)
  have := refFr_len (l := l) (t := t) (f := t)
  rw [refT, List.length_append]
  omega
theorem refR_is {l : List Ev} {t f : Nat} : refR l t f 6 = [1, 2, 3, 4, 5, 6].filterMap fun r => if isF l f t r = true then some ⟨f, t, r⟩ else none := by
 simp only [refR, List.filterMap_cons, List.filterMap_nil, List.nil_append]
 cases isF l f t 1 <;> cases isF l f t 2 <;> cases isF l f t 3 <;> cases isF l f t 4 <;> cases isF l f t 5 <;> cases isF l f t 6 <;> rfl
theorem refFr_is {l : List Ev} {t : Nat} : ∀ n, refFr l t n = (List.range n).flatMap fun f => [1, 2, 3, 4, 5, 6].filterMap fun r => if isF l f t r = true then some ⟨f, t, r⟩ else none
 | 0 => rfl
 | n + 1 => by rw [refFr, refFr_is n, List.range_succ, List.flatMap_append, List.flatMap_singleton, refR_is]
theorem refT_up {l : List Ev} : ∀ n, refT l n = (List.range n).flatMap fun t => (List.range t).flatMap fun f => [1, 2, 3, 4, 5, 6].filterMap fun r => if isF l f t r = true then some ⟨f, t, r⟩ else none
 | 0 => rfl
 | n + 1 => by rw [refT, refT_up n, List.range_succ, List.flatMap_append, List.flatMap_singleton, refFr_is]
theorem refT_is {l : List Ev} : refT l l.length = refE l := refT_up _
set_option maxHeartbeats 1000000 in
theorem f_all24 {w : World} {F : List Piece} {A : Piece} {lb lo lc : Nat} {l : List Ev} (hA : EvA A lb lo l) (hR : RtL l) (hll : l.length ≤ 100) (H : SL w (A :: F)) : Calls Tryz.prog 16 #[.slice (some ⟨lb, lo, none⟩) l.length lc] w fun o w' => ∃ ya yc, o = .returned (.slice ya (refE l).length yc) ∧ SL w' (Slc 36 3 (.slice ya (refE l).length yc) (refE l).length ((refE l).flatMap Edg.cells) :: A :: F) := by
 refine calls_d (args := [_]) Tryz.func16 rfl ?_
 refine ⟨⟨⟨⟨?_⟩⟩⟩⟩
 have q := SL.slcNil 36 3 (H)
 refine den.loop (ι := Nat × Value) [(3, 7), (10, 33)] (by kernel_rfl) (fun (t, rv) => [(3, rv), (10, .int .i64 ↑t)]) (fun (t, rv) w => t ≤ l.length ∧ SL w (Slc 36 3 rv (refT l t).length ((refT l t).flatMap Edg.cells) :: A :: F)) (fun (t, rv) => l.length - t) (0, (.slice none 0 0)) ⟨rfl, rfl, trivial⟩ ⟨Nat.zero_le _, q⟩ ?_
 rintro ⟨t, rv⟩ s w ⟨ht0, H⟩
 have hob := Nat.lt_or_ge t l.length
 rcases hob with ht | ht
 ·have hob := SL.slcForm H
  obtain ⟨ra, rc, rfl⟩ := hob
  have hl1 := refT_len (l := l) (t := t) (by omega)
  refine ⟨BB.yd ?_⟩
  refine Cn.yes (⟨⟨⟨⟨?_⟩⟩⟩⟩)
  have q : SL w (Slc 36 3 (.slice ra ((refT l t).length) rc) (refT l t ++ refFr l t 0).length ((refT l t ++ refFr l t 0).flatMap Edg.cells) :: A :: F) := by
   rw [show refT l t ++ refFr l t 0 = refT l t from List.append_nil _]
   exact H
  refine den.loop (ι := Nat × Value) [(3, 3), (5, 7), (13, 32)] (by kernel_rfl) (fun (f, rv) => [(3, rv), (5, .int .i64 ↑f)]) (fun (f, rv) w => f ≤ t ∧ SL w (Slc 36 3 rv (refT l t ++ refFr l t f).length ((refT l t ++ refFr l t f).flatMap Edg.cells) :: A :: F)) (fun (f, rv) => t - f) (0, (.slice ra ((refT l t).length) rc)) ⟨rfl, rfl, trivial⟩ ⟨Nat.zero_le _, q⟩ ?_
  rintro ⟨f, rv⟩ s w ⟨hf0, H⟩
  have hob := Nat.lt_or_ge f t
  rcases hob with hf | hf
  ·have hob := SL.slcForm H
   obtain ⟨ra, rc, rfl⟩ := hob
   have hl2 := refFr_len (l := l) (t := t) (f := f)
   refine ⟨BB.yd ?_⟩
   refine Cn.yes (⟨⟨⟨?_⟩⟩⟩)
   have q : SL w (Slc 36 3 (.slice ra ((refT l t ++ refFr l t f).length) rc) (refT l t ++ refFr l t f ++ refR l t f 0).length ((refT l t ++ refFr l t f ++ refR l t f 0).flatMap Edg.cells) :: A :: F) := by
    rw [show refT l t ++ refFr l t f ++ refR l t f 0 = refT l t ++ refFr l t f from List.append_nil _]
    exact H
   refine den.loop (ι := Nat × Value) [(3, 3), (6, 7), (18, 32)] (by kernel_rfl) (fun (j, rv) => [(3, rv), (6, .int .i64 (↑j + 1))]) (fun (j, rv) w => j ≤ 6 ∧ SL w (Slc 36 3 rv (refT l t ++ refFr l t f ++ refR l t f j).length ((refT l t ++ refFr l t f ++ refR l t f j).flatMap Edg.cells) :: A :: F)) (fun (j, rv) => 6 - j) (0, (.slice ra ((refT l t ++ refFr l t f).length) rc)) ⟨rfl, rfl, trivial⟩ ⟨Nat.zero_le _, q⟩ ?_
   rintro ⟨j, rv⟩ s w ⟨hj0, H⟩
   have hob := Nat.lt_or_ge j 6
   rcases hob with hj | hj
   ·have hob := SL.slcForm H
    obtain ⟨ra, rc, rfl⟩ := hob
    have hl3 := refR_len (l := l) (t := t) (f := f) (j := j)
    have hlx : (refT l t ++ refFr l t f ++ refR l t f j).length ≤ 100000 := by rw [List.length_append, List.length_append]; omega
    refine ⟨BB.yd ?_⟩
    refine Cn.yes (⟨⟨Mn.pure (.agg #[.int .i64 ↑f, .int .i64 ↑t, .int .i64 (↑j + 1)]) (by kernel_rfl) ?_⟩⟩)
    refine Nw.as #[.int .i64 0, .int .i64 0, .int .i64 0] 36 rfl H fun b7 w H => ?_
    refine H.st0 (cs' := #[.int .i64 ↑f, .int .i64 0, .int .i64 0]) rfl rfl rfl fun w H => ?_
    refine H.st0 (cs' := #[.int .i64 ↑f, .int .i64 ↑t, .int .i64 0]) rfl rfl rfl fun w H => ?_
    refine H.st0 (cs' := #[.int .i64 ↑f, .int .i64 ↑t, .int .i64 (↑j + 1)]) rfl rfl rfl fun w H => ?_
    refine ⟨H.ldi 0 rfl (v := .int .i64 ↑f) rfl ?_⟩
    refine H.ldi 0 rfl (v := .int .i64 ↑t) rfl (H.ldi 0 rfl (v := .int .i64 (↑j + 1)) rfl ?_)
    have h1 := H.pi [2, 0, 1] 3
    simp only [pl, nth, drL] at h1
    have K := f_is (f := f) (t := t) (r := j + 1) (lc := lc) hA hR hf ht (by omega) (by omega) h1
    have hob : ∃ bq0 : Bool, isF l f t (j + 1) = bq0 := ⟨_, rfl⟩
    obtain ⟨bq, hb⟩ := hob
    cases bq
    ·rw [hb] at K
     refine Cl.s K fun w H => ?_
     replace H := H.pi [1, 2, 0] 3
     simp only [pl, nth, drL] at H
     refine BB.no rfl (Cn.no (⟨IW.z (((j : Int) + 1) + 1) ?_⟩))
     have q : SL w (Slc 36 3 (.slice ra ((refT l t ++ refFr l t f ++ refR l t f j).length) rc) (refT l t ++ refFr l t f ++ refR l t f (j + 1)).length ((refT l t ++ refFr l t f ++ refR l t f (j + 1)).flatMap Edg.cells) :: A :: F) := by
      rw [show refT l t ++ refFr l t f ++ refR l t f (j + 1) = (refT l t ++ refFr l t f ++ refR l t f j) by rw [refR, if_neg (by rw [hb]; decide), List.append_nil]]
      exact H.pi [1, 2] 3
     exact ⟨(j + 1, (.slice ra ((refT l t ++ refFr l t f ++ refR l t f j).length) rc)), ⟨rfl, rfl, trivial⟩, ⟨(by omega : j + 1 ≤ 6), q⟩, (show 6 - (j + 1) < 6 - j by omega)⟩
    rw [hb] at K
    refine Cl.s K fun w H => ?_
    replace H := H.pi [1, 2, 0] 3
    simp only [pl, nth, drL] at H
    refine BB.yes rfl (Cn.yes (⟨H.ldi 0 rfl (v := .int .i64 ↑f) rfl ?_⟩))
    refine H.ldi 0 rfl (v := .int .i64 ↑t) rfl (H.ldi 0 rfl (v := .int .i64 (↑j + 1)) rfl (Mn.new (fun b => .slice (some ⟨b, 0, none⟩) 1 1) #[.int .i64 ↑f, .int .i64 ↑t, .int .i64 (↑j + 1)] 36 (by kernel_rfl) H fun b31 w H => ?_))
    refine SL.appS H.up2 (.tmp 29) (.tmp 31) 30 (.agg #[.int .i64 0, .int .i64 0, .int .i64 0]) 24 (by rfl) (by kernel_rfl) (by kernel_rfl) (by rfl) (by decide) (by rfl) (some ⟨b31, 0, none⟩) 1 1 [.int .i64 ↑f, .int .i64 ↑t, .int .i64 (↑j + 1)] (by rfl) (H.rdRow 0 rfl (by rfl) (by decide)) (by rfl) (by omega) (by decide) (by decide) fun g1 c1 w H => ?_
    refine ⟨IW.z (((j : Int) + 1) + 1) ?_⟩
    have q : SL w (Slc 36 3 (.slice (some ⟨g1, 0, none⟩) ((refT l t ++ refFr l t f ++ refR l t f j).length + 1) c1) (refT l t ++ refFr l t f ++ refR l t f (j + 1)).length ((refT l t ++ refFr l t f ++ refR l t f (j + 1)).flatMap Edg.cells) :: A :: F) := by
     rw [show refT l t ++ refFr l t f ++ refR l t f (j + 1) = (refT l t ++ refFr l t f ++ refR l t f j) ++ [⟨f, t, j + 1⟩] by rw [refR, if_pos hb, ← List.append_assoc], List.flatMap_append, show ((refT l t ++ refFr l t f ++ refR l t f j) ++ [(⟨f, t, j + 1⟩ : Edg)]).length = (refT l t ++ refFr l t f ++ refR l t f j).length + 1 by rw [List.length_append]; rfl]
     exact H.pi [0, 3] 4
    exact ⟨(j + 1, (.slice (some ⟨g1, 0, none⟩) ((refT l t ++ refFr l t f ++ refR l t f j).length + 1) c1)), ⟨rfl, rfl, trivial⟩, ⟨(by omega : j + 1 ≤ 6), q⟩, (show 6 - (j + 1) < 6 - j by omega)⟩
   have hob : j = 6 := by omega
   obtain rfl := hob
   have hob := SL.slcForm H
   obtain ⟨ra, rc, rfl⟩ := hob
   refine ⟨BB.nd ?_⟩
   refine Cn.no (⟨IW.i f ?_⟩)
   have q : SL w (Slc 36 3 (.slice ra ((refT l t ++ refFr l t f ++ refR l t f 6).length) rc) (refT l t ++ refFr l t (f + 1)).length ((refT l t ++ refFr l t (f + 1)).flatMap Edg.cells) :: A :: F) := by
    rw [refFr, ← List.append_assoc]
    exact H
   exact ⟨(f + 1, (.slice ra ((refT l t ++ refFr l t f ++ refR l t f 6).length) rc)), ⟨rfl, rfl, trivial⟩, ⟨(by omega : f + 1 ≤ t), q⟩, (show t - (f + 1) < t - f by omega)⟩
  have hob : t = f := by omega
  obtain rfl := hob
  have hob := SL.slcForm H
  obtain ⟨ra, rc, rfl⟩ := hob
  refine ⟨BB.nd ?_⟩
  refine Cn.no (⟨IW.i t ?_⟩)
  have q : SL w (Slc 36 3 (.slice ra ((refT l t ++ refFr l t t).length) rc) (refT l (t + 1)).length ((refT l (t + 1)).flatMap Edg.cells) :: A :: F) := by
   skip
   exact H
  exact ⟨(t + 1, (.slice ra ((refT l t ++ refFr l t t).length) rc)), ⟨rfl, rfl, trivial⟩, ⟨(by omega : t + 1 ≤ l.length), q⟩, (show l.length - (t + 1) < l.length - t by omega)⟩
 have hob : t = l.length := by omega
 obtain rfl := hob
 have hob := SL.slcForm H
 obtain ⟨ra, rc, rfl⟩ := hob
 refine ⟨BB.nd ?_⟩
 refine Cn.no (⟨ret1 (.slice ra ((refT l l.length).length) rc) rfl (by rfl) ?_⟩)
 rw [← refT_is]
 exact ⟨ra, rc, rfl, H⟩
theorem f_all24_nil {w : World} {F : List Piece} {la : Option Addr} {lc : Nat} (H : SL w F) : Calls Tryz.prog 16 #[.slice la 0 lc] w fun o w' => ∃ ya yc, o = .returned (.slice ya 0 yc) ∧ SL w' (Slc 36 3 (.slice ya 0 yc) 0 [] :: F) := by
 refine calls_d (args := [_]) Tryz.func16 rfl ?_
 refine ⟨⟨⟨⟨?_⟩⟩⟩⟩
 have q := SL.slcNil 36 3 (H)
 refine den.loop (ι := Nat × Value) [(3, 7), (10, 33)] (by kernel_rfl) (fun (t, rv) => [(3, rv), (10, .int .i64 ↑t)]) (fun (t, rv) w => t ≤ 0 ∧ SL w (Slc 36 3 rv (refT [] t).length ((refT [] t).flatMap Edg.cells) :: F)) (fun (t, rv) => 0 - t) (0, (.slice none 0 0)) ⟨rfl, rfl, trivial⟩ ⟨Nat.zero_le _, q⟩ ?_
 rintro ⟨t, rv⟩ s w ⟨ht0, H⟩
 have hob : t = 0 := by omega
 obtain rfl := hob
 have hob := SL.slcForm H
 obtain ⟨ra, rc, rfl⟩ := hob
 refine ⟨BB.no rfl ?_⟩
 refine Cn.no (⟨ret1 (.slice ra ((refT [] 0).length) rc) rfl (by rfl) ?_⟩)
 exact ⟨ra, rc, rfl, H⟩
end Go.Proofs.YtoamjodmidbmbaaGreatDoor
namespace Go.Proofs.YtoamjodmidbmbaaGreatDoor
open Go.RowKit
section
variable {P : Program} {op : Oper} {f : Operand → Value}
theorem u64_wrap {n : Nat} (h : n < 18446744073709551616) : IntKind.u64.wrap (n : Int) = n := by
 unfold IntKind.wrap
 simp [IntKind.signed, IntKind.bits]
 omega
theorem exec_shl (x y : Operand) (t ty : Nat) (hop : op.op = .binOp .shl t x y ty) (a n : Nat) (hx : f x = .int .u64 (a : Int)) (hy : f y = .int .i64 (n : Int)) (hn : n < 64) (ha : a * 2 ^ n < 18446744073709551616) (w : World) : (execOp f op).run P w = .ok (.value (.int .u64 ((a * 2 ^ n : Nat) : Int))) w := by
 have h0 : ¬ ((n : Int) < 0) := by omega
 have h1 : min n 64 = n := by omega
 have h2 := u64_wrap ha
 rw [Int.natCast_mul, Int.natCast_pow] at h2
 have h3 : IntKind.u64.bits = 64 := rfl
 simp [execOp, hop, hx, hy, eqGuard, binOp, Op.shift, h0, h1, h2, h3, Result.andThen] 
 exact_mod_cast h2
theorem exec_shr (x y : Operand) (t ty : Nat) (hop : op.op = .binOp .shr t x y ty) (a n : Nat) (hx : f x = .int .u64 (a : Int)) (hy : f y = .int .i64 (n : Int)) (hn : n < 64) (w : World) : (execOp f op).run P w = .ok (.value (.int .u64 ((a >>> n : Nat) : Int))) w := by
 have h0 : ¬ ((n : Int) < 0) := by omega
 have h1 : min n 64 = n := by omega
 have h3 : IntKind.u64.bits = 64 := rfl
 have h4 : Int.fdiv (a : Int) (2 ^ n : Int) = ((a >>> n : Nat) : Int) := by
  rw [Nat.shiftRight_eq_div_pow, Int.fdiv_eq_ediv_of_nonneg _ (Int.pow_nonneg (by decide))]
  norm_cast
 simp only [execOp, hop, hx, hy, eqGuard, binOp, Op.shift, Sem.run_bind, h0, if_false, h3, Int.toNat_natCast, h1, h4]
 rfl
theorem exec_or (x y : Operand) (t ty : Nat) (hop : op.op = .binOp .or t x y ty) (a b : Nat) (hx : f x = .int .u64 (a : Int)) (hy : f y = .int .u64 (b : Int)) (ha : a < 18446744073709551616) (hb : b < 18446744073709551616) (w : World) : (execOp f op).run P w = .ok (.value (.int .u64 ((a ||| b : Nat) : Int))) w := by
 have h4 : (a ||| b) < 18446744073709551616 := Nat.or_lt_two_pow (n := 64) ha hb
 have h5 : ((BitVec.ofInt 64 (a : Int)) ||| (BitVec.ofInt 64 (b : Int))).toNat = a ||| b := by
  rw [BitVec.toNat_or, BitVec.ofInt_natCast, BitVec.ofInt_natCast, BitVec.toNat_ofNat, BitVec.toNat_ofNat, Nat.mod_eq_of_lt ha, Nat.mod_eq_of_lt hb]
 have h6 : IntKind.u64.wrap ((((BitVec.ofInt IntKind.u64.bits (a : Int)) ||| (BitVec.ofInt IntKind.u64.bits (b : Int))).toNat : Nat) : Int) = ((a ||| b : Nat) : Int) := by
  show IntKind.u64.wrap ((((BitVec.ofInt 64 (a : Int)) ||| (BitVec.ofInt 64 (b : Int))).toNat : Nat) : Int) = _
  rw [h5, u64_wrap h4]
 simp only [execOp, hop, hx, hy, eqGuard, binOp, Op.intBits, Sem.run_bind, h6]
 rfl
theorem exec_and (x y : Operand) (t ty : Nat) (hop : op.op = .binOp .and t x y ty) (a b : Nat) (hx : f x = .int .u64 (a : Int)) (hy : f y = .int .u64 (b : Int)) (ha : a < 18446744073709551616) (hb : b < 18446744073709551616) (w : World) : (execOp f op).run P w = .ok (.value (.int .u64 ((a &&& b : Nat) : Int))) w := by
 have h4 : (a &&& b) < 18446744073709551616 := Nat.lt_of_le_of_lt Nat.and_le_left ha
 have h5 : ((BitVec.ofInt 64 (a : Int)) &&& (BitVec.ofInt 64 (b : Int))).toNat = a &&& b := by
  rw [BitVec.toNat_and, BitVec.ofInt_natCast, BitVec.ofInt_natCast, BitVec.toNat_ofNat, BitVec.toNat_ofNat, Nat.mod_eq_of_lt ha, Nat.mod_eq_of_lt hb]
 have h6 : IntKind.u64.wrap ((((BitVec.ofInt IntKind.u64.bits (a : Int)) &&& (BitVec.ofInt IntKind.u64.bits (b : Int))).toNat : Nat) : Int) = ((a &&& b : Nat) : Int) := by
  show IntKind.u64.wrap ((((BitVec.ofInt 64 (a : Int)) &&& (BitVec.ofInt 64 (b : Int))).toNat : Nat) : Int) = _
  rw [h5, u64_wrap h4]
 simp only [execOp, hop, hx, hy, eqGuard, binOp, Op.intBits, Sem.run_bind, h6]
 rfl
theorem exec_quo (x y : Operand) (t ty : Nat) (hop : op.op = .binOp .quo t x y ty) (a b : Nat) (hx : f x = .int .i64 (a : Int)) (hy : f y = .int .i64 (b : Int)) (ha : a < 9223372036854775808) (hb : 0 < b) (w : World) : (execOp f op).run P w = .ok (.value (.int .i64 ((a / b : Nat) : Int))) w := by
 have h0 : ¬ ((b : Int) = 0) := by omega
 have h1 : Int.tdiv (a : Int) (b : Int) = ((a / b : Nat) : Int) := by
  rw [Int.tdiv_eq_ediv_of_nonneg (by omega)]; norm_cast
 have h2 : a / b < 9223372036854775808 := Nat.lt_of_le_of_lt (Nat.div_le_self _ _) ha
 have h3 : IntKind.i64.wrap ((a / b : Nat) : Int) = ((a / b : Nat) : Int) := by
  generalize a / b = q at h2 ⊢
  unfold IntKind.wrap
  simp [IntKind.signed, IntKind.bits]
  omega
 simp only [execOp, hop, hx, hy, eqGuard, binOp, Op.intDiv, Sem.run_bind, h0, if_false, h1, h3]
 rfl
theorem has_bit (a n : Nat) : (((a >>> n) &&& 1 : Nat) : Int) = 1 ↔ a.testBit n = true := by
 rw [Nat.and_one_is_mod, Nat.testBit_eq_decide_div_mod_eq, Nat.shiftRight_eq_div_pow, decide_eq_true_eq]
 omega
theorem set_bit (a n b : Nat) : (a ||| 1 * 2 ^ n).testBit b = (a.testBit b || decide (n = b)) := by
 rw [Nat.testBit_or, Nat.one_mul, Nat.testBit_two_pow]
end
section
variable {P : Program} {w : World} {L F : List Piece} {σ : Fr} {op : Oper} {S : World → Prop} {K : Value → World → Prop} {C : Value → Prop}
theorem Mn.shl (x y : Operand) (t ty : Nat) (hop : op.op = .binOp .shl t x y ty) (a n : Nat) (hx : ev σ x = .int .u64 (a : Int)) (hy : ev σ y = .int .i64 (n : Int)) (hn : n < 64) (ha : a * 2 ^ n < 18446744073709551616) (k : K (.int .u64 ((a * 2 ^ n : Nat) : Int)) w) : Mn P σ op w K := Mn.by (exec_shl x y t ty hop a n hx hy hn ha w) k
theorem MnC.shl (x y : Operand) (t ty : Nat) (hop : op.op = .binOp .shl t x y ty) (a n : Nat) (hx : ev σ x = .int .u64 (a : Int)) (hy : ev σ y = .int .i64 (n : Int)) (hn : n < 64) (ha : a * 2 ^ n < 18446744073709551616) (k : C (.int .u64 ((a * 2 ^ n : Nat) : Int))) : MnC P S σ op C := ⟨⟨_, fun w _ => exec_shl x y t ty hop a n hx hy hn ha w, k⟩⟩
theorem Mn.shr (x y : Operand) (t ty : Nat) (hop : op.op = .binOp .shr t x y ty) (a n : Nat) (hx : ev σ x = .int .u64 (a : Int)) (hy : ev σ y = .int .i64 (n : Int)) (hn : n < 64) (k : K (.int .u64 ((a >>> n : Nat) : Int)) w) : Mn P σ op w K := Mn.by (exec_shr x y t ty hop a n hx hy hn w) k
theorem MnC.shr (x y : Operand) (t ty : Nat) (hop : op.op = .binOp .shr t x y ty) (a n : Nat) (hx : ev σ x = .int .u64 (a : Int)) (hy : ev σ y = .int .i64 (n : Int)) (hn : n < 64) (k : C (.int .u64 ((a >>> n : Nat) : Int))) : MnC P S σ op C := ⟨⟨_, fun w _ => exec_shr x y t ty hop a n hx hy hn w, k⟩⟩
theorem Mn.or (x y : Operand) (t ty : Nat) (hop : op.op = .binOp .or t x y ty) (a b : Nat) (hx : ev σ x = .int .u64 (a : Int)) (hy : ev σ y = .int .u64 (b : Int)) (ha : a < 18446744073709551616) (hb : b < 18446744073709551616) (k : K (.int .u64 ((a ||| b : Nat) : Int)) w) : Mn P σ op w K := Mn.by (exec_or x y t ty hop a b hx hy ha hb w) k
theorem MnC.or (x y : Operand) (t ty : Nat) (hop : op.op = .binOp .or t x y ty) (a b : Nat) (hx : ev σ x = .int .u64 (a : Int)) (hy : ev σ y = .int .u64 (b : Int)) (ha : a < 18446744073709551616) (hb : b < 18446744073709551616) (k : C (.int .u64 ((a ||| b : Nat) : Int))) : MnC P S σ op C := ⟨⟨_, fun w _ => exec_or x y t ty hop a b hx hy ha hb w, k⟩⟩
theorem Mn.and (x y : Operand) (t ty : Nat) (hop : op.op = .binOp .and t x y ty) (a b : Nat) (hx : ev σ x = .int .u64 (a : Int)) (hy : ev σ y = .int .u64 (b : Int)) (ha : a < 18446744073709551616) (hb : b < 18446744073709551616) (k : K (.int .u64 ((a &&& b : Nat) : Int)) w) : Mn P σ op w K := Mn.by (exec_and x y t ty hop a b hx hy ha hb w) k
theorem MnC.and (x y : Operand) (t ty : Nat) (hop : op.op = .binOp .and t x y ty) (a b : Nat) (hx : ev σ x = .int .u64 (a : Int)) (hy : ev σ y = .int .u64 (b : Int)) (ha : a < 18446744073709551616) (hb : b < 18446744073709551616) (k : C (.int .u64 ((a &&& b : Nat) : Int))) : MnC P S σ op C := ⟨⟨_, fun w _ => exec_and x y t ty hop a b hx hy ha hb w, k⟩⟩
theorem Mn.quo (x y : Operand) (t ty : Nat) (hop : op.op = .binOp .quo t x y ty) (a b : Nat) (hx : ev σ x = .int .i64 (a : Int)) (hy : ev σ y = .int .i64 (b : Int)) (ha : a < 9223372036854775808) (hb : 0 < b) (k : K (.int .i64 ((a / b : Nat) : Int)) w) : Mn P σ op w K := Mn.by (exec_quo x y t ty hop a b hx hy ha hb w) k
theorem MnC.quo (x y : Operand) (t ty : Nat) (hop : op.op = .binOp .quo t x y ty) (a b : Nat) (hx : ev σ x = .int .i64 (a : Int)) (hy : ev σ y = .int .i64 (b : Int)) (ha : a < 9223372036854775808) (hb : 0 < b) (k : C (.int .i64 ((a / b : Nat) : Int))) : MnC P S σ op C := ⟨⟨_, fun w _ => exec_quo x y t ty hop a b hx hy ha hb w, k⟩⟩
theorem Mn.makeS {te sz bytes : Nat} (H : SL w L) (l c : Operand) (t n : Nat) (hop : op.op = .makeSlice t l c) (ht : P.underlying t = some (.slice te)) (z : Value) (hinfo : (P.info? te).map (fun i => (i.zero, i.size, i.bytes)) = some (some z, sz, bytes)) (hl : ev σ l = .int .i64 (n : Int)) (hc : ev σ c = .int .i64 (n : Int)) (hn : n ≤ 10000000) (hb : bytes ≤ 1000)
  (k : ∀ b w', SL w' (Slc te sz (.slice (some ⟨b, 0, none⟩) n n) n (madeCells z.cells (n * sz)).toList :: L) → K (.slice (some ⟨b, 0, none⟩) n n) w') : Mn P σ op w K := by
 obtain ⟨i0, hi, hzz⟩ := Option.map_eq_some_iff.1 hinfo
 simp only [Prod.mk.injEq] at hzz
 obtain ⟨hz0, hz1, hz2⟩ := hzz
 obtain ⟨w', hrun, hown, hgr⟩ := run_make_full (P := P) w 0 t te i0 z sz ht hi hz0 hz1 .i64 .i64 n (by rw [hz2]; have := Nat.mul_le_mul hb hn; omega) (by unfold maxLen; omega) (Nat.zero_le _)
 have hrun' : (execOp (ev σ) op).run P w = .ok (.value (.slice (some ⟨w.heap.size, 0, none⟩) n n)) w' := by
  simp only [execOp, hop, hl, hc, Sem.run_bind, hrun]
  rfl
 refine Mn.by hrun' (k w.heap.size w' (H.new (M := [_]) ((Frm.refl Nil w).grown hgr (fun k hk _ => by cases hk)) ⟨_, fun _ h => h, ⟨hown, fun k hk => ?_⟩, trivial⟩))
 injection hk with hk
 dsimp only at hk
 subst hk
 exact .inr ⟨Nat.le_refl _, own_lt hown rfl⟩
theorem made_one (z : Value) (n : Nat) (hz : z.cells = #[z]) : (madeCells z.cells (n * 1)).toList = List.replicate n z := by
 rw [Nat.mul_one, hz]
 apply List.ext_getElem?
 intro i
 simp only [madeCells, Array.toList_map, List.getElem?_map, List.getElem?_replicate]
 rcases Nat.lt_or_ge i n with h | h
 ·rw [if_pos h, Array.toList_range, List.getElem?_range h]
  simp [Nat.mod_one]
 ·rw [if_neg (by omega), Array.toList_range, List.getElem?_eq_none (by rw [List.length_range]; exact h)]
  rfl
theorem run_slice3 {t lo hi mx N te sz : Nat} (x l h m : Operand) (hop : op.op = .slice t x (some l) (some h) (some m)) (ht : P.underlying t = some (.slice te)) (hsz : (P.info? te).map (·.size) = some sz) {b : Nat} (h1 : lo ≤ hi) (h2 : hi ≤ mx) (h3 : mx ≤ N) (h4 : lo < mx)
  (hx : ev σ x = .slice (some ⟨b, 0, none⟩) N N) (hl : ev σ l = .int .i64 (lo : Int)) (hh : ev σ h = .int .i64 (hi : Int)) (hm : ev σ m = .int .i64 (mx : Int)) (w : World) : (execOp (ev σ) op).run P w = .ok (.value (.slice (some ⟨b, lo * sz, none⟩) (hi - lo) (mx - lo))) w := by
 obtain ⟨i, hi', hs⟩ := Option.map_eq_some_iff.1 hsz
 have e1 : (0 : Int) ≤ (mx : Int) ∧ (mx : Int) ≤ (N : Int) := by omega
 have e2 : (0 : Int) ≤ (hi : Int) ∧ (hi : Int) ≤ (mx : Int) := by omega
 have e3 : (0 : Int) ≤ (lo : Int) ∧ (lo : Int) ≤ (hi : Int) := by omega
 have e4 : ¬ mx = lo := by omega
 simp only [execOp, hop, hx, hl, hh, hm, Instr.sliceAt, Instr.slice, Sem.run_bind, run_underlying ht, Result.andThen_ok, Instr.sliceBounds, Instr.sliceBound, asIntOf, Sem.run_pure, Option.map_some]
 simp [e1, e2, e3, e4, sizeOf, typeInfo, hi', hs, Addr_add, Result.andThen]
theorem Mn.slice3 {lo off hi mx N te sz : Nat} (ho : lo * sz = off) (x l h m : Operand) (t : Nat) (hop : op.op = .slice t x (some l) (some h) (some m)) (ht : P.underlying t = some (.slice te)) (hsz : (P.info? te).map (·.size) = some sz) {b : Nat} (h1 : lo ≤ hi) (h2 : hi ≤ mx) (h3 : mx ≤ N) (h4 : lo < mx) {n c : Nat} (hn : hi - lo = n) (hc : mx - lo = c)
  (hx : ev σ x = .slice (some ⟨b, 0, none⟩) N N) (hl : ev σ l = .int .i64 (lo : Int)) (hh : ev σ h = .int .i64 (hi : Int)) (hm : ev σ m = .int .i64 (mx : Int)) (k : K (.slice (some ⟨b, off, none⟩) n c) w) : Mn P σ op w K := by
 subst hn hc ho
 exact Mn.by (run_slice3 x l h m hop ht hsz h1 h2 h3 h4 hx hl hh hm w) k
theorem MnC.slice3 {lo off hi mx N te sz : Nat} (ho : lo * sz = off) (x l h m : Operand) (t : Nat) (hop : op.op = .slice t x (some l) (some h) (some m)) (ht : P.underlying t = some (.slice te)) (hsz : (P.info? te).map (·.size) = some sz) {b : Nat} (h1 : lo ≤ hi) (h2 : hi ≤ mx) (h3 : mx ≤ N) (h4 : lo < mx) {n c : Nat} (hn : hi - lo = n) (hc : mx - lo = c)
  (hx : ev σ x = .slice (some ⟨b, 0, none⟩) N N) (hl : ev σ l = .int .i64 (lo : Int)) (hh : ev σ h = .int .i64 (hi : Int)) (hm : ev σ m = .int .i64 (mx : Int)) (k : C (.slice (some ⟨b, off, none⟩) n c)) : MnC P S σ op C := by
 subst hn hc ho
 exact ⟨⟨_, fun w _ => run_slice3 x l h m hop ht hsz h1 h2 h3 h4 hx hl hh hm w, k⟩⟩
end
theorem ret3 {P : Program} {w : World} {fn : Func} {τ υ ρ : Nat} {σ : Fr} {R : Ending → World → Prop} (v u x : Value) (hr : fn.results = #[.tmp τ, .tmp υ, .tmp ρ]) (hv : σ τ = v) (hu : σ υ = u) (hx : σ ρ = x) (h : R (.returned (.tuple #[v, u, x])) w) : RetOf P fn R σ w := by
 refine ⟨⟨_, fun a ha => ?_, h⟩⟩
 have h1 := ha τ
 have h2 := ha υ
 have h3 := ha ρ
 rw [hv] at h1
 rw [hu] at h2
 rw [hx] at h3
 have h1' : a.tmps[τ]?.getD undef = v := by simpa using h1
 have h2' : a.tmps[υ]?.getD undef = u := by simpa using h2
 have h3' : a.tmps[ρ]?.getD undef = x := by simpa using h3
 simp [results, hr, h1', h2', h3']
end Go.Proofs.YtoamjodmidbmbaaGreatDoor
namespace Go.Proofs.YtoamjodmidbmbaaGreatDoor
inductive Tr (R : Nat → Nat → Bool) : Nat → Nat → Prop
 | one {i j : Nat} : R i j = true → Tr R i j
 | more {i k j : Nat} : Tr R i k → R k j = true → Tr R i j
section
variable {R M : Nat → Nat → Bool} {i j k a b n m : Nat} {out : Nat → Bool}
theorem Tr.trans (h : Tr R i k) (h2 : Tr R k j) : Tr R i j := by
 induction h2 with
 | one h2 => exact .more h h2
 | more _ h3 ih => exact .more ih h3
theorem Tr.lt (hf : ∀ a b, R a b = true → a < b) (h : Tr R i j) : i < j := by
 induction h with
 | one h => exact hf _ _ h
 | more _ h2 ih => have := hf _ _ h2; omega
theorem Tr.mono (hf : ∀ a b, R a b = true → M a b = true) (h : Tr R i j) : Tr M i j := by
 induction h with
 | one h => exact .one (hf _ _ h)
 | more _ h2 ih => exact .more ih (hf _ _ h2)
def rowR (M : Nat → Nat → Bool) (k i : Nat) : Nat → Nat → Bool := fun a b => if a = i then M i b || (M i k && M k b) else M a b
def rndM (M : Nat → Nat → Bool) (k : Nat) : Nat → Nat → Nat → Bool
 | 0 => M
 | i + 1 => rowR (rndM M k i) k i
def warM (M : Nat → Nat → Bool) (n : Nat) : Nat → Nat → Nat → Bool
 | 0 => M
 | k + 1 => rndM (warM M n k) k n
theorem rndM_is : ∀ m a b, rndM M k m a b = if a < m then M a b || (M a k && M k b) else M a b
 | 0, a, b => by rw [if_neg (Nat.not_lt_zero a)]; rfl
 | m + 1, a, b => by
  rw [rndM, rowR]
  simp only [rndM_is m]
  by_cases ha : a = m
  ·subst ha
   rw [if_pos rfl, if_neg (Nat.lt_irrefl a), if_pos (Nat.lt_succ_self a), if_neg (Nat.lt_irrefl a)]
   split
   ·cases M a b <;> cases M a k <;> cases M k b <;> cases M k k <;> rfl
   ·rfl
  ·rw [if_neg ha]
   by_cases h : a < m
   ·rw [if_pos h, if_pos (by omega)]
   ·rw [if_neg h, if_neg (by omega)]
theorem warM_sound (hs : ∀ a b, M a b = true → Tr R a b) : ∀ k a b, warM M n k a b = true → Tr R a b
 | 0, a, b, h => hs a b h
 | k + 1, a, b, h => by
  rw [warM, rndM_is] at h
  split at h
  ·rw [Bool.or_eq_true, Bool.and_eq_true] at h
   rcases h with h | ⟨h1, h2⟩
   ·exact warM_sound hs k a b h
   ·exact (warM_sound hs k _ _ h1).trans (warM_sound hs k _ _ h2)
  ·exact warM_sound hs k a b h
theorem warM_sub : ∀ k a b, M a b = true → warM M n k a b = true
 | 0, a, b, h => h
 | k + 1, a, b, h => by
  have := warM_sub k a b h
  rw [warM, rndM_is]
  split
  ·rw [this]; rfl
  ·exact this
theorem warM_trans (hb : ∀ a b, M a b = true → a < n) : ∀ k, (∀ a b, warM M n k a b = true → a < n) ∧ ∀ a c b, c < k → warM M n k a c = true → warM M n k c b = true → warM M n k a b = true
 | 0 => ⟨hb, fun _ _ _ h => absurd h (Nat.not_lt_zero _)⟩
 | k + 1 => by
  obtain ⟨ih1, ih2⟩ := warM_trans hb k
  have step : ∀ a b, warM M n (k + 1) a b = true ↔ (warM M n k a b = true ∨ (warM M n k a k = true ∧ warM M n k k b = true)) := by
   intro a b
   rw [warM, rndM_is]
   split
   ·rw [Bool.or_eq_true, Bool.and_eq_true]
   ·rename_i h
    exact ⟨.inl, fun q => q.elim id fun q => absurd (ih1 _ _ q.1) h⟩
  refine ⟨fun a b h => ?_, fun a c b hc h1 h2 => ?_⟩
  ·rcases (step a b).1 h with h | h
   ·exact ih1 _ _ h
   ·exact ih1 _ _ h.1
  ·rw [step] at h1 h2 ⊢
   rcases Nat.lt_or_ge c k with hk | hk
   ·rcases h1 with h1 | ⟨h1, h1'⟩
    ·rcases h2 with h2 | ⟨h2, h2'⟩
     ·exact .inl (ih2 a c b hk h1 h2)
     ·exact .inr ⟨ih2 a c k hk h1 h2, h2'⟩
    ·rcases h2 with h2 | ⟨h2, h2'⟩
     ·exact .inr ⟨h1, ih2 k c b hk h1' h2⟩
     ·exact .inr ⟨h1, h2'⟩
   ·obtain rfl : c = k := by omega
    have e1 : warM M n c a c = true := h1.elim id (·.1)
    have e2 : warM M n c c b = true := h2.elim id (·.2)
    exact .inr ⟨e1, e2⟩
def cloR (M : Nat → Nat → Bool) (n : Nat) : Nat → Nat → Bool := warM M n n
theorem clo_iff (hb : ∀ a b, M a b = true → a < n ∧ b < n) : cloR M n a b = true ↔ Tr M a b := by
 refine ⟨warM_sound (fun a b h => .one h) n a b, fun h => ?_⟩
 induction h with
 | one h => exact warM_sub n _ _ h
 | more _ h2 ih => exact (warM_trans (fun a b h => (hb a b h).1) n).2 _ _ _ (hb _ _ h2).1 ih (warM_sub n _ _ h2)
def swpM (R : Nat → Nat → Bool) (out : Nat → Bool) : Nat → Nat → Bool
 | 0 => out
 | j + 1 => if swpM R out j j = true then fun b => swpM R out j b || R j b else swpM R out j
def frmM (R : Nat → Nat → Bool) (n i : Nat) : Nat → Nat → Bool
 | 0 => R i
 | m + 1 => swpM R (frmM R n i m) n
theorem swpM_sub : ∀ m, out b = true → swpM R out m b = true
 | 0, h => h
 | m + 1, h => by
  have := swpM_sub m h
  rw [swpM]
  split
  ·simp [this]
  ·exact this
theorem swpM_sound (h0 : ∀ b, out b = true → Tr R i b) : ∀ m b, swpM R out m b = true → Tr R i b
 | 0, b, h => h0 b h
 | m + 1, b, h => by
  rw [swpM] at h
  split at h
  ·rename_i hm
   rw [Bool.or_eq_true] at h
   rcases h with h | h
   ·exact swpM_sound h0 m b h
   ·exact .more (swpM_sound h0 m m hm) h
  ·exact swpM_sound h0 m b h
theorem swpM_same (hf : ∀ a b, R a b = true → a < b) : ∀ m b, b ≤ m → ∀ m', m ≤ m' → swpM R out m' b = swpM R out m b
 | m, b, hb, m', hm => by
  induction m' with
  | zero => rw [show m = 0 by omega]
  | succ k ih =>
   rcases Nat.lt_or_ge k m with h | h
   ·rw [show k + 1 = m by omega]
   ·rw [← ih h, swpM]
    split
    ·have : R k b = false := by
      cases hc : R k b with
      | false => rfl
      | true => have := hf _ _ hc; omega
     show (swpM R out k b || R k b) = _
     rw [this, Bool.or_false]
    ·rfl
theorem swpM_closed (hf : ∀ a b, R a b = true → a < b) (hm : j < m) (h : swpM R out m j = true) (h2 : R j b = true) : swpM R out m b = true := by
 have h3 : swpM R out j j = true := by rw [← swpM_same hf j j (Nat.le_refl _) m (by omega)]; exact h
 have h4 : swpM R out (j + 1) b = true := by rw [swpM, if_pos h3]; simp [h2]
 rcases Nat.lt_or_ge (j + 1) b with hb | hb
 ·
  have mono : ∀ d, swpM R out (j + 1 + d) b = true := by
   intro d
   induction d with
   | zero => exact h4
   | succ d ih =>
    rw [← Nat.add_assoc, swpM]
    split
    ·simp [ih]
    ·exact ih
  have := mono (m - (j + 1))
  rwa [show j + 1 + (m - (j + 1)) = m by omega] at this
 ·rw [swpM_same hf (j + 1) b hb m (by omega)]
  exact h4
theorem frmM_sound : ∀ m b, frmM R n i m b = true → Tr R i b
 | 0, b, h => .one h
 | m + 1, b, h => swpM_sound (fun b h => frmM_sound m b h) n b h
theorem frmM_sub : ∀ m b, R i b = true → frmM R n i m b = true
 | 0, b, h => h
 | m + 1, b, h => by
  rw [frmM]
  exact swpM_sub n (frmM_sub m b h)
theorem frmM_iff (hf : ∀ a b, R a b = true → a < b) (hb : ∀ a b, R a b = true → b < n) (hm : 0 < m) : frmM R n i m b = true ↔ Tr R i b := by
 obtain ⟨m, rfl⟩ : ∃ k, m = k + 1 := ⟨m - 1, by omega⟩
 refine ⟨frmM_sound (m + 1) b, fun h => ?_⟩
 induction h with
 | one h => exact frmM_sub (m + 1) _ h
 | @more k j h1 h2 ih =>
  change swpM R (frmM R n i m) n k = true at ih
  show swpM R (frmM R n i m) n j = true
  have hk : k < n := by
   have := hf _ _ h2
   have := hb _ _ h2
   omega
  exact swpM_closed hf hk ih h2
end
end Go.Proofs.YtoamjodmidbmbaaGreatDoor
namespace Go.Proofs.YtoamjodmidbmbaaGreatDoor
open Go.RowKit
def wd (n : Nat) : Nat := (n + 63) / 64
def u64s (ws : List Nat) : List Value := ws.map fun (x : Nat) => Value.int .u64 (x : Int)
structure MatB (n : Nat) (ws : List Nat) (M : Nat → Nat → Bool) : Prop where
 len : ws.length = n * wd n
 lt : ∀ p, ws.getD p 0 < 18446744073709551616
 bit : ∀ i k, i < n → k < n → (ws.getD (i * wd n + k / 64) 0).testBit (k % 64) = M i k
def setR (M : Nat → Nat → Bool) (i k : Nat) : Nat → Nat → Bool := fun a b => (a == i && b == k) || M a b
def orU (ws : List Nat) (i k W : Nat) : Nat → List Nat
 | 0 => ws
 | j + 1 => (orU ws i k W j).set (i * W + j) ((orU ws i k W j).getD (i * W + j) 0 ||| (orU ws i k W j).getD (k * W + j) 0)
section
variable {n i k j p W a b : Nat} {ws : List Nat} {M R : Nat → Nat → Bool} {x : Nat}
theorem wd_lt (h : k < n) : k / 64 < wd n := by unfold wd; omega
theorem wd_le (h : n ≤ 1024) : wd n ≤ 16 := by unfold wd; omega
theorem wd_idx (hi : i < n) (hj : j < W) : i * W + j < n * W := by
 have : (i + 1) * W ≤ n * W := Nat.mul_le_mul_right W hi
 rw [Nat.add_mul, Nat.one_mul] at this
 omega
theorem idx_inj (ha : a < W) (hb : b < W) : i * W + a = j * W + b ↔ i = j ∧ a = b := by
 constructor
 ·intro h
  rcases Nat.lt_trichotomy i j with h1 | h1 | h1
  ·have := wd_idx h1 ha
   omega
  ·subst h1
   exact ⟨rfl, by omega⟩
  ·have := wd_idx h1 hb
   omega
 ·rintro ⟨rfl, rfl⟩; rfl
theorem MatB.congr (h : MatB n ws M) (he : ∀ a b, a < n → b < n → M a b = R a b) : MatB n ws R := ⟨h.len, h.lt, fun i k hi hk => by rw [h.bit i k hi hk, he i k hi hk]⟩
theorem u64s_len : (u64s ws).length = ws.length := by unfold u64s; rw [List.length_map]
theorem u64s_at (h : i * W + j < ws.length) : (u64s ws)[i * W + j * 1]? = some (.int .u64 ((ws.getD (i * W + j) 0 : Nat) : Int)) := by
 unfold u64s
 rw [Nat.mul_one, List.getElem?_map, List.getD_eq_getElem?_getD, List.getElem?_eq_getElem h]
 rfl
theorem u64s_set : (u64s ws).set (i * W + j * 1) (.int .u64 ((x : Nat) : Int)) = u64s (ws.set (i * W + j) x) := by
 unfold u64s
 rw [Nat.mul_one, List.map_set]
theorem getD_set {y : Nat} (h : p < ws.length) : (ws.set p y).getD j 0 = if j = p then y else ws.getD j 0 := by
 rw [List.getD_eq_getElem?_getD, List.getD_eq_getElem?_getD, List.getElem?_set]
 by_cases e : p = j
 ·subst e
  rw [if_pos rfl, if_pos h, if_pos rfl]
  rfl
 ·rw [if_neg e, if_neg (fun q => e q.symm)]
theorem or_lt {x y : Nat} (hx : x < 18446744073709551616) (hy : y < 18446744073709551616) : (x ||| y) < 18446744073709551616 := Nat.or_lt_two_pow (n := 64) hx hy
theorem pow_lt (h : k < 64) : 1 * 2 ^ k < 18446744073709551616 := by
 rw [Nat.one_mul]
 exact Nat.pow_lt_pow_right (by decide) h
theorem mat_new (h : n ≤ 1024) : MatB n (List.replicate (n * wd n) 0) (fun _ _ => false) := by
 have e : ∀ p, (List.replicate (n * wd n) 0).getD p 0 = 0 := fun p => by
  rw [List.getD_eq_getElem?_getD, List.getElem?_replicate]
  split <;> rfl
 refine ⟨List.length_replicate, fun p => by rw [e]; decide, fun i k _ _ => by rw [e, Nat.zero_testBit]⟩
theorem mat_set (h : MatB n ws M) (hi : i < n) (hk : k < n) : MatB n (ws.set (i * wd n + k / 64) (ws.getD (i * wd n + k / 64) 0 ||| 1 * 2 ^ (k % 64))) (setR M i k) := by
 have hp : i * wd n + k / 64 < ws.length := by rw [h.len]; exact wd_idx hi (wd_lt hk)
 refine ⟨by rw [List.length_set]; exact h.len, fun p => ?_, fun i' k' hi' hk' => ?_⟩
 ·rw [getD_set hp]
  split
  ·exact or_lt (h.lt _) (pow_lt (Nat.mod_lt _ (by decide)))
  ·exact h.lt p
 ·rw [getD_set hp]
  unfold setR
  by_cases e : i' * wd n + k' / 64 = i * wd n + k / 64
  ·rw [if_pos e, set_bit]
   obtain ⟨rfl, e2⟩ := (idx_inj (wd_lt hk') (wd_lt hk)).1 e
   rw [← e2, h.bit i' k' hi' hk', Bool.or_comm]
   congr 1
   rw [Bool.eq_iff_iff]
   simp only [decide_eq_true_eq, Bool.and_eq_true, beq_iff_eq, true_and]
   omega
  ·rw [if_neg e, h.bit i' k' hi' hk']
   have : (i' == i && k' == k) = false := by
    rw [Bool.eq_false_iff]
    intro hh
    simp only [Bool.and_eq_true, beq_iff_eq] at hh
    obtain ⟨rfl, rfl⟩ := hh
    exact e rfl
   rw [this, Bool.false_or]
theorem mat_has (h : MatB n ws M) (hi : i < n) (hk : k < n) : (((ws.getD (i * wd n + k / 64) 0 >>> (k % 64)) &&& 1 : Nat) : Int) = 1 ↔ M i k = true := by rw [has_bit, h.bit i k hi hk]
theorem orU_len : (orU ws i k W j).length = ws.length := by
 induction j with
 | zero => rfl
 | succ j ih => rw [orU, List.length_set, ih]
theorem orU_at (hl : ws.length = n * W) (hi : i < n) (hk : k < n) : ∀ j, j ≤ W → ∀ a b, b < W → (orU ws i k W j).getD (a * W + b) 0 = if a = i ∧ b < j then ws.getD (i * W + b) 0 ||| ws.getD (k * W + b) 0 else ws.getD (a * W + b) 0
 | 0, _, a, b, _ => by rw [if_neg (by omega)]; rfl
 | j + 1, hj, a, b, hb => by
  have hp : i * W + j < (orU ws i k W j).length := by rw [orU_len, hl]; exact wd_idx hi hj
  have ih := orU_at hl hi hk j (by omega)
  rw [orU, getD_set hp]
  by_cases e : a * W + b = i * W + j
  ·obtain ⟨e1, e2⟩ := (idx_inj hb hj).1 e
   rw [if_pos e, if_pos ⟨e1, by omega⟩, ih i j hj, ih k j hj, if_neg (by omega), if_neg (by omega), e2]
  ·rw [if_neg e, ih a b hb]
   by_cases h1 : a = i ∧ b < j
   ·rw [if_pos h1, if_pos ⟨h1.1, by omega⟩]
   ·rw [if_neg h1, if_neg]
    rintro ⟨rfl, h2⟩
    refine e ?_
    rw [show b = j by omega]
theorem orU_lt (h : MatB n ws M) (hi : i < n) : ∀ j, j ≤ wd n → ∀ p, (orU ws i k (wd n) j).getD p 0 < 18446744073709551616
 | 0, _, p => h.lt p
 | j + 1, hj, p => by
  have hp : i * wd n + j < (orU ws i k (wd n) j).length := by rw [orU_len, h.len]; exact wd_idx hi hj
  rw [orU, getD_set hp]
  split
  ·exact or_lt (orU_lt h hi j (by omega) _) (orU_lt h hi j (by omega) _)
  ·exact orU_lt h hi j (by omega) p
theorem mat_or (h : MatB n ws M) (hi : i < n) (hk : k < n) (hm : M i k = true) : MatB n (orU ws i k (wd n) (wd n)) (rowR M k i) := by
 refine ⟨by rw [orU_len]; exact h.len, orU_lt h hi (wd n) (Nat.le_refl _), fun a b ha hb => ?_⟩
 rw [orU_at h.len hi hk (wd n) (Nat.le_refl _) a (b / 64) (wd_lt hb)]
 unfold rowR
 by_cases e : a = i
 ·subst e
  rw [if_pos ⟨rfl, wd_lt hb⟩, if_pos rfl, Nat.testBit_or, h.bit a b ha hb, h.bit k b hk hb, hm, Bool.true_and]
 ·rw [if_neg (fun q => e q.1), if_neg e, h.bit a b ha hb]
theorem mat_skip (h : MatB n ws M) (hm : M i k = false) : MatB n ws (rowR M k i) := h.congr fun a b _ _ => by
 unfold rowR
 split
 ·rename_i e
  subst e
  rw [hm, Bool.false_and, Bool.or_false]
 ·rfl
end
def rowsV (b n : Nat) : List Value := (List.range n).map fun i => .slice (some ⟨b, i * wd n, none⟩) (wd n) (wd n)
theorem rowsV_at {b n i : Nat} (h : i < n) : (rowsV b n)[i * 1]? = some (.slice (some ⟨b, i * wd n, none⟩) (wd n) (wd n)) := by
 unfold rowsV
 rw [Nat.mul_one, List.getElem?_map, List.getElem?_range h]
 rfl
def rowsU (b n : Nat) (i : Nat) : List Value := (List.range i).map fun i => .slice (some ⟨b, i * wd n, none⟩) (wd n) (wd n)
theorem rowsU_succ {b n i : Nat} : rowsU b n (i + 1) = rowsU b n i ++ [.slice (some ⟨b, i * wd n, none⟩) (wd n) (wd n)] := by
 unfold rowsU
 rw [List.range_succ, List.map_append]
 rfl
def MatP (p n : Nat) (M : Nat → Nat → Bool) : Piece := exP fun (x : Value × Nat × List Nat) => andP (MatB n x.2.2 M) (all [row p #[.int .i64 (n : Int), x.1] 97, Slc 100 1 x.1 n (rowsV x.2.1 n), Slc 99 1 (.slice (some ⟨x.2.1, 0, none⟩) (n * wd n) (n * wd n)) (n * wd n) (u64s x.2.2)])
theorem MatP.iff {w : World} {F : List Piece} {p n : Nat} {M : Nat → Nat → Bool} : SL w (MatP p n M :: F) ↔ ∃ rv b ws, MatB n ws M ∧ SL w (row p #[.int .i64 (n : Int), rv] 97 :: Slc 100 1 rv n (rowsV b n) :: Slc 99 1 (.slice (some ⟨b, 0, none⟩) (n * wd n) (n * wd n)) (n * wd n) (u64s ws) :: F) := by
 unfold MatP
 constructor
 ·intro h
  obtain ⟨⟨rv, b, ws⟩, h⟩ := SL.exP.1 h
  obtain ⟨h1, h⟩ := SL.andP.1 h
  exact ⟨rv, b, ws, h1, SL.all.1 h⟩
 ·rintro ⟨rv, b, ws, h1, h⟩
  exact SL.exP.2 ⟨(rv, b, ws), SL.andP.2 ⟨h1, SL.all.2 h⟩⟩
theorem MatP.same {w : World} {F : List Piece} {p n : Nat} {M R : Nat → Nat → Bool} (he : ∀ a b, a < n → b < n → M a b = R a b) (h : SL w (MatP p n M :: F)) : SL w (MatP p n R :: F) := by
 obtain ⟨rv, b, ws, h1, h⟩ := MatP.iff.1 h
 exact MatP.iff.2 ⟨rv, b, ws, h1.congr he, h⟩
end Go.Proofs.YtoamjodmidbmbaaGreatDoor
namespace Go.Proofs.YtoamjodmidbmbaaGreatDoor
open Go.RowKit
set_option maxRecDepth 100000
theorem m_size {w : World} {F : List Piece} {p n : Nat} {rv : Value} (H : SL w (row p #[.int .i64 (n : Int), rv] 97 :: F)) : Calls Tryz.prog 23 #[.pointer (some ⟨p, 0, none⟩)] w fun o w' => o = .returned (.int .i64 (n : Int)) ∧ SL w' (row p #[.int .i64 (n : Int), rv] 97 :: F) := by
 refine calls_d (args := [_]) Tryz.func23 rfl ?_
 refine ⟨⟨BB.no rfl ?_⟩⟩
 refine Cn.no (⟨H.ldi 0 rfl (v := .int .i64 ↑n) rfl ?_⟩)
 refine ret1 (.int .i64 ↑n) rfl (by rfl) ?_
 exact ⟨rfl, H⟩
theorem m_in {w : World} {F : List Piece} {p n i : Nat} {rv : Value} (hi : i < n) (H : SL w (row p #[.int .i64 (n : Int), rv] 97 :: F)) : Calls Tryz.prog 49 #[.pointer (some ⟨p, 0, none⟩), .int .i64 (i : Int)] w fun o w' => o = .returned (.bool true) ∧ SL w' (row p #[.int .i64 (n : Int), rv] 97 :: F) := by
 refine calls_d (args := [_, _]) Tryz.func49 rfl ?_
 refine ⟨⟨BB.yd ?_⟩⟩
 refine Cl.s (m_size H) fun w H => ?_
 refine BB.yd (ret1 (.bool true) rfl (by rfl) ?_)
 exact ⟨rfl, H⟩
theorem m_has {w : World} {F : List Piece} {p n : Nat} {M : Nat → Nat → Bool} {i k : Nat} (hi : i < n) (hk : k < n) (hn : n ≤ 1024) (H : SL w (MatP p n M :: F)) : Calls Tryz.prog 24 #[.pointer (some ⟨p, 0, none⟩), .int .i64 (i : Int), .int .i64 (k : Int)] w fun o w' => o = .returned (.bool (M i k)) ∧ SL w' (MatP p n M :: F) := by
 obtain ⟨rv, b, ws, hB, H⟩ := MatP.iff.1 H
 obtain ⟨ra, rc, rfl⟩ := SL.slcForm H.up1
 obtain ⟨rg, rfl⟩ := SL.slcAddr H.up1 (by omega)
 cases hm : M i k with
 | true =>
  refine calls_d (args := [_, _, _]) Tryz.func24 rfl ?_
  refine ⟨⟨?_⟩⟩
  have h1 := H
  refine Cl.s (m_in (by omega) h1) fun w H => ?_
  refine BB.yes rfl ?_
  have h1 := H
  refine Cl.s (m_in (by omega) h1) fun w H => ?_
  refine BB.yes rfl (H.ldi 0 rfl (v := .slice (some ⟨rg, 0, none⟩) n rc) rfl (Ix.at0 i 1 (by kernel_rfl) (rfl) (by omega) ?_))
  refine H.ldS 1 rfl (v := .slice (some ⟨b, i * wd n, none⟩) (wd n) (wd n)) (rowsV_at (by omega)) (Mn.quo (.tmp 23) (.const (.int .i64 (64))) 3 3 (by rfl) k 64 (by rfl) (by rfl) (by omega) (by decide) ?_)
  refine Ix.at (k / 64) 1 (by kernel_rfl) (rfl) (wd_lt hk) ?_
  refine H.ldS 2 rfl (v := .int .u64 (↑(ws.getD (i * wd n + (k / 64)) 0))) (u64s_at (by rw [hB.len]; exact wd_idx (by omega) (wd_lt hk))) (Mn.rem (.tmp 27) (.const (.int .i64 (64))) 3 3 (by rfl) ↑k 64 (by rfl) (by rfl) (by omega) (by omega) (↑(k % 64)) (by omega) ?_)
  refine Mn.shr (.tmp 26) (.tmp 28) 99 3 (by rfl) (ws.getD (i * wd n + (k / 64)) 0) (k % 64) (by rfl) (by rfl) (Nat.mod_lt _ (by decide)) ?_
  refine Mn.and (.tmp 29) (.const (.int .u64 (1))) 99 99 (by rfl) ((ws.getD (i * wd n + (k / 64)) 0) >>> (k % 64)) 1 (by rfl) (by rfl) (Nat.lt_of_le_of_lt (Nat.shiftRight_le _ _) (hB.lt _)) (by decide) ?_
  refine BB.yes (beq_iff_eq.2 ((mat_has hB hi hk).2 hm)) (ret1 (.bool true) rfl (by rfl) ?_)
  exact ⟨rfl, MatP.iff.2 ⟨_, b, ws, hB, H⟩⟩
 | false =>
  refine calls_d (args := [_, _, _]) Tryz.func24 rfl ?_
  refine ⟨⟨?_⟩⟩
  have h1 := H
  refine Cl.s (m_in (by omega) h1) fun w H => ?_
  refine BB.yes rfl ?_
  have h1 := H
  refine Cl.s (m_in (by omega) h1) fun w H => ?_
  refine BB.yes rfl (H.ldi 0 rfl (v := .slice (some ⟨rg, 0, none⟩) n rc) rfl (Ix.at0 i 1 (by kernel_rfl) (rfl) (by omega) ?_))
  refine H.ldS 1 rfl (v := .slice (some ⟨b, i * wd n, none⟩) (wd n) (wd n)) (rowsV_at (by omega)) (Mn.quo (.tmp 23) (.const (.int .i64 (64))) 3 3 (by rfl) k 64 (by rfl) (by rfl) (by omega) (by decide) ?_)
  refine Ix.at (k / 64) 1 (by kernel_rfl) (rfl) (wd_lt hk) ?_
  refine H.ldS 2 rfl (v := .int .u64 (↑(ws.getD (i * wd n + (k / 64)) 0))) (u64s_at (by rw [hB.len]; exact wd_idx (by omega) (wd_lt hk))) (Mn.rem (.tmp 27) (.const (.int .i64 (64))) 3 3 (by rfl) ↑k 64 (by rfl) (by rfl) (by omega) (by omega) (↑(k % 64)) (by omega) ?_)
  refine Mn.shr (.tmp 26) (.tmp 28) 99 3 (by rfl) (ws.getD (i * wd n + (k / 64)) 0) (k % 64) (by rfl) (by rfl) (Nat.mod_lt _ (by decide)) ?_
  refine Mn.and (.tmp 29) (.const (.int .u64 (1))) 99 99 (by rfl) ((ws.getD (i * wd n + (k / 64)) 0) >>> (k % 64)) 1 (by rfl) (by rfl) (Nat.lt_of_le_of_lt (Nat.shiftRight_le _ _) (hB.lt _)) (by decide) ?_
  refine BB.no (beq_eq_false_iff_ne.2 fun hh => by rw [(mat_has hB hi hk).1 hh] at hm; cases hm) ?_
  refine ret1 (.bool false) rfl (by rfl) ?_
  exact ⟨rfl, MatP.iff.2 ⟨_, b, ws, hB, H⟩⟩
theorem m_set {w : World} {F : List Piece} {p n : Nat} {M : Nat → Nat → Bool} {i k : Nat} (hi : i < n) (hk : k < n) (hn : n ≤ 1024) (H : SL w (MatP p n M :: F)) : Calls Tryz.prog 84 #[.pointer (some ⟨p, 0, none⟩), .int .i64 (i : Int), .int .i64 (k : Int)] w fun o w' => o = .returned (.int .i64 0) ∧ SL w' (MatP p n (setR M i k) :: F) := by
 obtain ⟨rv, b, ws, hB, H⟩ := MatP.iff.1 H
 obtain ⟨ra, rc, rfl⟩ := SL.slcForm H.up1
 obtain ⟨rg, rfl⟩ := SL.slcAddr H.up1 (by omega)
 refine calls_d (args := [_, _, _]) Tryz.func84 rfl ?_
 refine ⟨⟨⟨BB.nd ?_⟩⟩⟩
 refine BB.nd (BB.yes rfl ?_)
 have h1 := H
 refine Cl.s (m_in (by omega) h1) fun w H => ?_
 refine BB.yes rfl (BB.no rfl ?_)
 have h1 := H
 refine Cl.s (m_in (by omega) h1) fun w H => ?_
 refine BB.yes rfl (BB.no rfl (Cn.no (⟨BB.no rfl ?_⟩)))
 refine Cn.no (⟨Drw.of [(0, true), (1, true), (2, true), (3, true), (4, true), (5, true), (6, true), (7, true), (8, true), (9, true), (10, true), (11, true), (12, true), (13, true), (14, true), (15, true), (16, false)] (by kernel_rfl) mixed (fun w => SL w _) H.drew ?_⟩)
 replace H := H.drew
 refine LdC.i 0 rfl (v := .slice (some ⟨rg, 0, none⟩) n rc) rfl (Ix.at0 i 1 (by kernel_rfl) (rfl) (by omega) ?_)
 refine LdC.S 1 rfl (v := .slice (some ⟨b, i * wd n, none⟩) (wd n) (wd n)) (rowsV_at (by omega)) (MnC.quo (.tmp 40) (.const (.int .i64 (64))) 3 3 (by rfl) k 64 (by rfl) (by rfl) (by omega) (by decide) ?_)
 refine Ix.at (k / 64) 1 (by kernel_rfl) (rfl) (wd_lt hk) ?_
 refine LdC.S 2 rfl (v := .int .u64 (↑(ws.getD (i * wd n + (k / 64)) 0))) (u64s_at (by rw [hB.len]; exact wd_idx (by omega) (wd_lt hk))) (MnC.rem (.tmp 44) (.const (.int .i64 (64))) 3 3 (by rfl) ↑k 64 (by rfl) (by rfl) (by omega) (by omega) (↑(k % 64)) (by omega) ?_)
 refine MnC.shl (.const (.int .u64 (1))) (.tmp 45) 99 3 (by rfl) 1 (k % 64) (by rfl) (by rfl) (Nat.mod_lt _ (by decide)) (pow_lt (Nat.mod_lt _ (by decide))) ?_
 refine MnC.or (.tmp 43) (.tmp 46) 99 99 (by rfl) (ws.getD (i * wd n + (k / 64)) 0) (1 * 2 ^ (k % 64)) (by rfl) (by rfl) (hB.lt _) (pow_lt (Nat.mod_lt _ (by decide))) ?_
 refine Ix.at (k / 64) 1 (by kernel_rfl) (rfl) (wd_lt hk) ?_
 refine SL.stS (o := i * wd n + (k / 64) * 1) (u := .int .u64 (↑((ws.getD (i * wd n + (k / 64)) 0) ||| (1 * 2 ^ (k % 64))))) H.up2 (by rw [u64s_len, hB.len, Nat.mul_one]; exact wd_idx hi (wd_lt hk)) rfl fun w H => ?_
 rw [u64s_set] at H
 replace H := H.dn2
 refine ⟨.inl rfl, ?_⟩
 refine ⟨ret1 (.int .i64 0) rfl (by rfl) ?_⟩
 exact ⟨rfl, MatP.iff.2 ⟨_, b, _, mat_set hB hi hk, H⟩⟩
theorem m_new {w : World} {F : List Piece} {n : Nat} (hn : n ≤ 1024) (H : SL w F) : Calls Tryz.prog 83 #[.int .i64 (n : Int)] w fun o w' => ∃ p, o = .returned (.tuple #[.pointer (some ⟨p, 0, none⟩), .int .i64 0]) ∧ SL w' (MatP p n (fun _ _ => false) :: F) := by
 refine calls_d (args := [_]) Tryz.func83 rfl ?_
 refine ⟨⟨BB.nd ?_⟩⟩
 refine BB.nd (Cn.no (⟨Mn.pure (.agg #[.int .i64 ↑n, .slice none 0 0]) (by kernel_rfl) ?_⟩))
 refine Nw.as #[.int .i64 ↑n, .slice none 0 0] 97 rfl H fun b16 w H => ?_
 refine ⟨IW.by (m := ↑(n + 63)) (by rw [show ((n : Int) + 63) = ((n + 63 : Nat) : Int) by omega]; exact wrap_id (by omega) (by omega)) ?_⟩
 refine Mn.quo (.tmp 18) (.const (.int .i64 (64))) 3 3 (by rfl) (n + 63) 64 (by rfl) (by rfl) (by omega) (by decide) ?_
 refine ⟨IW.by (m := ↑(n * wd n)) (by rw [show ((n : Int) * (((n + 63) / 64 : Nat) : Int)) = ((n * wd n : Nat) : Int) by unfold wd; exact (Int.natCast_mul _ _).symm]; have := wd_le hn; have := Nat.mul_le_mul hn this; exact wrap_id (by omega) (by omega)) ?_⟩
 refine Mn.makeS (sz := 1) (te := 99) (bytes := 8) H (.tmp 22) (.tmp 22) 100 (n * wd n) (by rfl) (by kernel_rfl) (.int .u64 0) (by kernel_rfl) (by rfl) (by rfl) (by have := wd_le hn; have := Nat.mul_le_mul hn this; omega) (by decide) fun b23 w H => ?_
 rw [made_one _ _ rfl, show List.replicate (n * wd n) (Value.int .u64 0) = u64s (List.replicate (n * wd n) 0) by unfold u64s; rw [List.map_replicate]; rfl] at H
 refine ⟨⟨?_⟩⟩
 have hB := mat_new (n := n) hn
 have q := SL.slcNil 100 1 (H.pi [1, 0] 2)
 refine den.loop (ι := Nat × Value) [(7, 7), (25, 52)] (by kernel_rfl) (fun (i, rv) => [(25, .int .i64 ↑i)]) (fun (i, rv) w => i ≤ n ∧ SL w (Slc 100 1 rv i (rowsU b23 n i) :: row b16 #[.int .i64 (n : Int), rv] 97 :: Slc 99 1 (.slice (some ⟨b23, 0, none⟩) (n * wd n) (n * wd n)) (n * wd n) (u64s (List.replicate (n * wd n) 0)) :: F)) (fun (i, rv) => n - i) (0, (.slice none 0 0)) ⟨rfl, trivial⟩ ⟨Nat.zero_le _, q⟩ ?_
 rintro ⟨i, rv⟩ s w ⟨hi0, H⟩
 have hob := SL.slcForm H
 obtain ⟨ra, rc, rfl⟩ := hob
 have hob := Nat.lt_or_ge i n
 rcases hob with hi | hi
 ·have hwd : i * wd n + wd n ≤ n * wd n := by have := Nat.mul_le_mul_right (wd n) hi; rw [Nat.succ_mul] at this; exact this
  have hw16 := wd_le hn
  have hnw : n * wd n ≤ 16384 := Nat.mul_le_mul hn hw16
  have hw0 : 0 < wd n := by unfold wd; omega
  refine ⟨BB.yd ?_⟩
  refine Cn.yes (⟨⟨⟨Drw.oft (.calm 0 (.calm 1 (.calm 2 (.calm 3 (.calm 4 (.calm 5 (.calm 6 (.calm 7 (.calm 8 (.calm 9 (.calm 10 (.calm 11 (.calm 12 (.calm 13 (.calm 14 (.calm 15 (.calm 16 (.calm 17 (.calm 18 (.calm 19 (.act 20 false (.act 21 false (.pure 22 (.pure 23 (.act 24 true .nil))))))))))))))))))))))))) (by kernel_rfl) mixed (fun w => SL w _) (H.drew.pi [1] 3) ?_⟩⟩⟩)
  replace H := H.drew
  refine LdC.i 0 rfl (v := .slice ra i rc) rfl (IW.by (m := ↑(i * wd n)) (by rw [show ((i : Int) * (((n + 63) / 64 : Nat) : Int)) = ((i * wd n : Nat) : Int) by unfold wd; exact (Int.natCast_mul _ _).symm]; exact wrap_id (by omega) (by omega)) (IW.by (m := ↑(i * wd n)) (by rw [show ((i : Int) * (((n + 63) / 64 : Nat) : Int)) = ((i * wd n : Nat) : Int) by unfold wd; exact (Int.natCast_mul _ _).symm]; exact wrap_id (by omega) (by omega)) (IW.by (m := ↑(i * wd n + wd n)) (by rw [show (((i * wd n : Nat) : Int) + (((n + 63) / 64 : Nat) : Int)) = ((i * wd n + wd n : Nat) : Int) by unfold wd; exact (Int.natCast_add _ _).symm]; exact wrap_id (by omega) (by omega)) (IW.by (m := ↑(i * wd n)) (by rw [show ((i : Int) * (((n + 63) / 64 : Nat) : Int)) = ((i * wd n : Nat) : Int) by unfold wd; exact (Int.natCast_mul _ _).symm]; exact wrap_id (by omega) (by omega)) (IW.by (m := ↑(i * wd n + wd n)) (by rw [show (((i * wd n : Nat) : Int) + (((n + 63) / 64 : Nat) : Int)) = ((i * wd n + wd n : Nat) : Int) by unfold wd; exact (Int.natCast_add _ _).symm]; exact wrap_id (by omega) (by omega)) (MnC.slice3 (te := 99) (sz := 1) (lo := i * wd n) (off := i * wd n) (Nat.mul_one _) (hi := i * wd n + wd n) (mx := i * wd n + wd n) (.tmp 33) (.tmp 36) (.tmp 41) (.tmp 46) 100 (by rfl) (by kernel_rfl) (by kernel_rfl) (by omega) (Nat.le_refl _) (hwd) (by omega) (Nat.add_sub_cancel_left _ _) (Nat.add_sub_cancel_left _ _) (by rfl) (by rfl) (by rfl) (by rfl) ?_))))))
  refine Mn.new (fun b => .slice (some ⟨b, 0, none⟩) 1 1) #[.slice (some ⟨b23, i * wd n, none⟩) (wd n) (wd n)] 100 (by kernel_rfl) H fun b48 w H => ?_
  refine ⟨.inr (H.pi [2] 4), ?_⟩
  refine SL.appS H.up1 (.tmp 32) (.tmp 48) 95 (.slice none 0 0) 24 (by rfl) (by kernel_rfl) (by kernel_rfl) (by rfl) (by decide) (by rfl) (some ⟨b48, 0, none⟩) 1 1 [.slice (some ⟨b23, i * wd n, none⟩) (wd n) (wd n)] (by rfl) (H.rdRow 0 rfl (by rfl) (by decide)) (by rfl) (by omega) (by decide) (by decide) fun g2 c2 w H => ?_
  refine ⟨.inr (H.pi [2] 4), ?_⟩
  refine H.st2 (cs' := #[.int .i64 ↑n, .slice (some ⟨g2, 0, none⟩) (i + 1) c2]) rfl rfl rfl fun w H => ?_
  refine ⟨.inl rfl, ?_⟩
  refine ⟨IW.i i ?_⟩
  have q : SL w (Slc 100 1 (.slice (some ⟨g2, 0, none⟩) (i + 1) c2) (i + 1) (rowsU b23 n (i + 1)) :: row b16 #[.int .i64 (n : Int), .slice (some ⟨g2, 0, none⟩) (i + 1) c2] 97 :: Slc 99 1 (.slice (some ⟨b23, 0, none⟩) (n * wd n) (n * wd n)) (n * wd n) (u64s (List.replicate (n * wd n) 0)) :: F) := by
   rw [rowsU_succ]
   exact H.pi [0, 2, 3] 4
  exact ⟨(i + 1, (.slice (some ⟨g2, 0, none⟩) (i + 1) c2)), ⟨rfl, trivial⟩, ⟨(by omega : i + 1 ≤ n), q⟩, (show n - (i + 1) < n - i by omega)⟩
 have hob : n = i := by omega
 obtain rfl := hob
 refine ⟨BB.nd ?_⟩
 refine Cn.no (⟨ret2 (.pointer (some ⟨b16, 0, none⟩)) (.int .i64 0) rfl (by rfl) (by rfl) ?_⟩)
 exact ⟨b16, rfl, MatP.iff.2 ⟨.slice ra n rc, b23, _, hB, H.pi [1, 0, 2] 3⟩⟩
theorem m_close {w : World} {F : List Piece} {p n : Nat} {M : Nat → Nat → Bool} (hn : n ≤ 1024) (H : SL w (MatP p n M :: F)) : Calls Tryz.prog 85 #[.pointer (some ⟨p, 0, none⟩)] w fun o w' => o = .returned (.tuple #[]) ∧ SL w' (MatP p n (cloR M n) :: F) := by
 refine calls_d (args := [_]) Tryz.func85 rfl ?_
 refine ⟨?_⟩
 have hob := MatP.iff.1 H
 obtain ⟨rv, b, ws, hB, H⟩ := hob
 refine Cl.s (m_size H) fun w H => ?_
 replace H := MatP.iff.2 ⟨rv, b, ws, hB, H⟩
 refine ⟨den.loop (ι := Nat) [(2, 5), (8, 51)] (by kernel_rfl) (fun k => [(8, .int .i64 ↑k)]) (fun k w => k ≤ n ∧ SL w (MatP p n (warM M n k) :: F)) (fun k => n - k) 0 ⟨rfl, trivial⟩ ⟨Nat.zero_le _, H⟩ ?_⟩
 rintro k s w ⟨hk0, H⟩
 have hob := Nat.lt_or_ge k n
 rcases hob with hk | hk
 ·refine ⟨BB.yd ?_⟩
  refine Cn.yes (⟨⟨?_⟩⟩)
  have hob := MatP.iff.1 H
  obtain ⟨rv, b, ws, hB, H⟩ := hob
  refine ⟨H.ldi 0 rfl (v := .int .i64 ↑n) rfl ?_⟩
  refine ⟨?_⟩
  replace H := MatP.iff.2 ⟨_, b, ws, hB, H⟩
  refine den.loop (ι := Nat) [(3, 5), (15, 50)] (by kernel_rfl) (fun i => [(15, .int .i64 ↑i)]) (fun i w => i ≤ n ∧ SL w (MatP p n (rndM (warM M n k) k i) :: F)) (fun i => n - i) 0 ⟨rfl, trivial⟩ ⟨Nat.zero_le _, H⟩ ?_
  rintro i s w ⟨hi0, H⟩
  have hob := Nat.lt_or_ge i n
  rcases hob with hi | hi
  ·refine ⟨BB.yd ?_⟩
   refine Cn.yes (⟨⟨⟨?_⟩⟩⟩)
   have K := m_has hi hk hn H
   have hob : ∃ bq0 : Bool, rndM (warM M n k) k i i k = bq0 := ⟨_, rfl⟩
   obtain ⟨bq, hm⟩ := hob
   cases bq
   ·rw [hm] at K
    refine Cl.s K fun w H => ?_
    have hob := MatP.iff.1 H
    obtain ⟨rv, b, ws, hB, H⟩ := hob
    have hob := SL.slcForm H.up1
    obtain ⟨ra, rc, rfl⟩ := hob
    have hob := SL.slcAddr H.up1 (by omega)
    obtain ⟨rg, rfl⟩ := hob
    refine BB.no rfl (BB.yes rfl (Cn.yes (⟨IW.i i ?_⟩)))
    have q : SL w (MatP p n (rndM (warM M n k) k (i + 1)) :: F) := MatP.iff.2 ⟨_, b, _, mat_skip hB hm, H⟩
    exact ⟨i + 1, ⟨rfl, trivial⟩, ⟨(by omega : i + 1 ≤ n), q⟩, (show n - (i + 1) < n - i by omega)⟩
   rw [hm] at K
   refine Cl.s K fun w H => ?_
   have hob := MatP.iff.1 H
   obtain ⟨rv, b, ws, hB, H⟩ := hob
   have hob := SL.slcForm H.up1
   obtain ⟨ra, rc, rfl⟩ := hob
   have hob := SL.slcAddr H.up1 (by omega)
   obtain ⟨rg, rfl⟩ := hob
   refine BB.yes rfl (BB.no rfl (Cn.no (⟨H.ldi 0 rfl (v := .slice (some ⟨rg, 0, none⟩) n rc) rfl ?_⟩)))
   refine Ix.at0 k 1 (by kernel_rfl) (rfl) (by omega) ?_
   refine H.ldS 1 rfl (v := .slice (some ⟨b, k * wd n, none⟩) (wd n) (wd n)) (rowsV_at (by omega)) (⟨den.loop (ι := Nat) [(4, 5), (31, 49)] (by kernel_rfl) (fun j => [(31, .int .i64 ↑j)]) (fun j w => j ≤ wd n ∧ SL w (row p #[.int .i64 ↑n, .slice (some ⟨rg, 0, none⟩) n rc] 97 :: Slc 100 1 (.slice (some ⟨rg, 0, none⟩) n rc) n (rowsV b n) :: Slc 99 1 (.slice (some ⟨b, 0, none⟩) (n * wd n) (n * wd n)) (n * wd n) (u64s (orU ws i k (wd n) j)) :: F)) (fun j => wd n - j) 0 ⟨rfl, trivial⟩ ⟨Nat.zero_le _, H⟩ ?_⟩)
   rintro j s w ⟨hj0, H⟩
   have hw16 := wd_le hn
   have hob := Nat.lt_or_ge j (wd n)
   rcases hob with hj | hj
   ·refine ⟨BB.yd ?_⟩
    refine Cn.yes (⟨⟨Ix.at j 1 (by kernel_rfl) (rfl) (hj) ?_⟩⟩)
    refine H.ldS 2 rfl (v := .int .u64 (↑((orU ws i k (wd n) j).getD (k * wd n + j) 0))) (u64s_at (by rw [orU_len, hB.len]; exact wd_idx (by omega) (hj))) (⟨H.ldi 0 rfl (v := .slice (some ⟨rg, 0, none⟩) n rc) rfl ?_⟩)
    refine Ix.at0 i 1 (by kernel_rfl) (rfl) (by omega) ?_
    refine H.ldS 1 rfl (v := .slice (some ⟨b, i * wd n, none⟩) (wd n) (wd n)) (rowsV_at (by omega)) (Ix.at j 1 (by kernel_rfl) (rfl) (hj) ?_)
    refine H.ldS 2 rfl (v := .int .u64 (↑((orU ws i k (wd n) j).getD (i * wd n + j) 0))) (u64s_at (by rw [orU_len, hB.len]; exact wd_idx (by omega) (hj))) (Mn.or (.tmp 45) (.tmp 46) 99 99 (by rfl) ((orU ws i k (wd n) j).getD (i * wd n + j) 0) ((orU ws i k (wd n) j).getD (k * wd n + j) 0) (by rfl) (by rfl) (orU_lt hB hi j (by omega) _) (orU_lt hB hi j (by omega) _) ?_)
    refine Ix.at j 1 (by kernel_rfl) (rfl) (hj) ?_
    refine SL.stS (o := i * wd n + j * 1) (u := .int .u64 (↑(((orU ws i k (wd n) j).getD (i * wd n + j) 0) ||| ((orU ws i k (wd n) j).getD (k * wd n + j) 0)))) H.up2 (by rw [u64s_len, orU_len, hB.len, Nat.mul_one]; exact wd_idx hi hj) rfl fun w H => ?_
    rw [u64s_set] at H
    replace H := H.dn2
    refine ⟨IW.i j ?_⟩
    exact ⟨j + 1, ⟨rfl, trivial⟩, ⟨(by omega : j + 1 ≤ wd n), H⟩, (show wd n - (j + 1) < wd n - j by omega)⟩
   have hob : j = wd n := by omega
   obtain rfl := hob
   refine ⟨BB.nd ?_⟩
   refine Cn.no (⟨IW.i i ?_⟩)
   have q : SL w (MatP p n (rndM (warM M n k) k (i + 1)) :: F) := MatP.iff.2 ⟨_, b, _, mat_or hB hi hk hm, H⟩
   exact ⟨i + 1, ⟨rfl, trivial⟩, ⟨(by omega : i + 1 ≤ n), q⟩, (show n - (i + 1) < n - i by omega)⟩
  have hob : n = i := by omega
  obtain rfl := hob
  refine ⟨BB.nd ?_⟩
  refine Cn.no (⟨IW.i k ?_⟩)
  exact ⟨k + 1, ⟨rfl, trivial⟩, ⟨(by omega : k + 1 ≤ n), H⟩, (show n - (k + 1) < n - k by omega)⟩
 have hob : n = k := by omega
 obtain rfl := hob
 refine ⟨BB.nd ?_⟩
 refine Cn.no (ret0 rfl ?_)
 exact ⟨rfl, H⟩
end Go.Proofs.YtoamjodmidbmbaaGreatDoor
namespace Go.Proofs.YtoamjodmidbmbaaGreatDoor
def relE (E : List Edg) : Nat → Nat → Bool := fun a b => E.any fun x => x.src == a && x.dst == b
def ahF (l : List Ev) : Nat → Nat → Bool := cloR (relE (allE l)) l.length
def raceF (l : List Ev) (a b : Nat) : Bool := (l.getD a evz).g != (l.getD b evz).g && ((l.getD a evz).kind == 10 || (l.getD b evz).kind == 10) && !ahF l a b && !ahF l b a
def accF (l : List Ev) (cell : Int) (i : Nat) : Bool := ((l.getD i evz).kind == 9 || (l.getD i evz).kind == 10) && (l.getD i evz).value == cell
def hitF (l : List Ev) (cell : Int) (i : Nat) : Bool := accF l cell i && (List.range i).any fun a => accF l cell a && raceF l a i
def frsF (l : List Ev) (cell : Int) : Option Nat := (List.range l.length).find? (hitF l cell)
section
variable {l : List Ev} {E : List Edg} {x : Edg} {a b i j k n m : Nat} {g c : Int} {s : Bool}
theorem relE_iff : relE E a b = true ↔ ∃ x ∈ E, x.src = a ∧ x.dst = b := by
 unfold relE
 rw [List.any_eq_true]
 simp only [Bool.and_eq_true, beq_iff_eq]
theorem is13 {f t r : Nat} (h : isF l f t r = true) : (l.getD f evz).kind ≠ 13 ∧ (l.getD t evz).kind ≠ 13 := by
 unfold isF at h
 split at h
 ·cases h
 ·rename_i hh
  exact ⟨fun e => hh (.inl e), fun e => hh (.inr e)⟩
theorem rel_lt (h : RtL l) (hr : relE (allE l) a b = true) : a < b ∧ b < l.length ∧ (l.getD a evz).kind ≠ 13 ∧ (l.getD b evz).kind ≠ 13 := by
 obtain ⟨x, hx, rfl, rfl⟩ := relE_iff.1 hr
 obtain ⟨h1, h2, _, _, h5⟩ := (mem_all h).1 hx
 exact ⟨h2, h1, is13 h5⟩
theorem ah_iff (h : RtL l) : ahF l a b = true ↔ Tr (relE (allE l)) a b := clo_iff fun a b hr => by
 have := rel_lt h hr
 omega
theorem Tr.end (h : RtL l) (ht : Tr (relE (allE l)) a b) : a < b ∧ b < l.length ∧ (l.getD a evz).kind ≠ 13 ∧ (l.getD b evz).kind ≠ 13 := by
 induction ht with
 | one hr => exact rel_lt h hr
 | more _ hr ih =>
  have h1 := rel_lt h hr
  exact ⟨by omega, h1.2.1, ih.2.2.1, h1.2.2.2⟩
theorem own_ahead (h : RtL l) : ∀ (d a b : Nat), b ≤ a + d → a < b → b < l.length → (l.getD a evz).g = (l.getD b evz).g → (l.getD a evz).kind ≠ 13 → (l.getD b evz).kind ≠ 13 → Tr (relE (allE l)) a b
 | 0, a, b, hd, hab, _, _, _, _ => absurd hab (by omega)
 | d + 1, a, b, hd, hab, hb, hg, ha13, hb13 => by
  cases hbt : btwF l a b (l.getD b evz).g with
  | true =>
   obtain ⟨k, h1, h2, h3, h4⟩ := btw_iff.1 hbt
   exact (own_ahead h d a k (by omega) h1 (by omega) (by rw [hg, h3]) ha13 h4).trans (own_ahead h d k b (by omega) h2 hb h3 h4 hb13)
  | false =>
   refine .one (relE_iff.2 ⟨⟨a, b, 1⟩, (mem_all h).2 ⟨hb, hab, Nat.le_refl _, Nat.le_of_ble_eq_true rfl, ?_⟩, rfl, rfl⟩)
   show isF l a b 1 = true
   unfold isF
   rw [if_neg (fun e => e.elim ha13 hb13), if_pos rfl, hbt, hg]
   simp
theorem leaves (h : RtL l) (ht : Tr (relE (allE l)) a b) (hg : (l.getD a evz).g ≠ (l.getD b evz).g) : ∃ k, a ≤ k ∧ (l.getD k evz).g = (l.getD a evz).g ∧ tellsF (l.getD k evz) = true ∧ Tr (relE (allE l)) k b := by
 have edge : ∀ {a b}, relE (allE l) a b = true → (l.getD a evz).g ≠ (l.getD b evz).g → tellsF (l.getD a evz) = true := by
  intro a b hr hg
  obtain ⟨x, hx, rfl, rfl⟩ := relE_iff.1 hr
  obtain ⟨_, _, h3, _, h5⟩ := (mem_all h).1 hx
  refine all_tells h hx ?_
  rcases Nat.lt_or_ge 1 x.rule with h1 | h1
  ·exact h1
  ·have hr1 : x.rule = 1 := by omega
   have h13 := is13 h5
   unfold isF at h5
   rw [if_neg (fun e => e.elim h13.1 h13.2), if_pos hr1] at h5
   simp only [Bool.and_eq_true, beq_iff_eq] at h5
   exact absurd h5.1 hg
 induction ht with
 | one hr => exact ⟨a, Nat.le_refl _, rfl, edge hr hg, .one hr⟩
 | @more k b h1 hr ih =>
  by_cases he : (l.getD a evz).g = (l.getD k evz).g
  ·exact ⟨k, Nat.le_of_lt (h1.end h).1, he.symm, edge hr (fun e => hg (he.trans e)), .one hr⟩
  ·obtain ⟨z, z1, z2, z3, z4⟩ := ih he
   exact ⟨z, z1, z2, z3, .more z4 hr⟩
def FullAt (l : List Ev) (n : Nat) : Prop := 0 < n → ¬ (0 ≤ (l.getD (n - 1) evz).mate ∧ ((l.getD (n - 1) evz).kind = 3 ∨ (l.getD (n - 1) evz).kind = 4))
theorem done_full (hn : n ≤ l.length) (hf : FullAt l n) : doneF (l.take n) c s = doneU l c s n := by
 unfold doneF
 rw [List.length_take, Nat.min_eq_left hn]
 cases n with
 | zero => rfl
 | succ i =>
  rw [doneU, doneU, doneU_same hn (by omega)]
  congr 1
  unfold doneO
  rw [take_getD (Nat.lt_succ_self i)]
  split
  ·rfl
  ·rename_i hk
   split
   ·rfl
   ·have hm : ¬ 0 ≤ (l.getD i evz).mate := fun hm => by
     have := hf (Nat.succ_pos i)
     rw [Nat.succ_sub_one] at this
     refine this ⟨hm, ?_⟩
     rcases Classical.em ((l.getD i evz).kind = 3) with h3 | h3
     ·exact .inl h3
     ·rcases Classical.em ((l.getD i evz).kind = 4) with h4 | h4
      ·exact .inr h4
      ·exact absurd (.inr ⟨h3, .inl h4⟩) hk
    rw [if_neg (fun e => hm e.1), if_neg (fun e => hm e.1)]
theorem done_below (h : RtL l) (hn : n ≤ l.length) (hf : FullAt l n) (hd : i ∈ doneU l c s n) : i < n := by
 obtain ⟨j, hj, hd⟩ := done_of hd
 have o := h.doneO (by omega) hd
 have hk := o.kind
 rcases o.is with ⟨rfl, _⟩ | ⟨rfl, h1, _, hm, h2, _⟩
 ·exact hj
 ·rcases Nat.lt_or_ge (j + 1) n with h3 | h3
  ·exact h3
  ·refine absurd ?_ (hf (by omega))
   rw [show n - 1 = j by omega]
   exact ⟨hm, by omega⟩
theorem done_at (h : RtL l) {d : Nat} (hd : d < n) : ∀ m, n ≤ m → m ≤ l.length → (doneU l c s m)[k]? = some d → (doneU l c s n)[k]? = some d
 | 0, hm, _, hk => by rw [show n = 0 by omega]; exact hk
 | m + 1, hm, hml, hk => by
  by_cases e : n = m + 1
  ·rw [e]; exact hk
  ·rw [doneU] at hk
   rcases Nat.lt_or_ge k (doneU l c s m).length with h1 | h1
   ·rw [List.getElem?_append_left h1] at hk
    exact done_at h hd m (by omega) (by omega) hk
   ·rw [List.getElem?_append_right h1] at hk
    have o := h.doneO (show m < l.length by omega) (List.mem_of_getElem? hk)
    rcases o.is with ⟨e1, _⟩ | ⟨e1, _⟩ <;> omega
theorem done_idx (h : RtL l) (hn : n ≤ l.length) (hf : FullAt l n) {d : Nat} (hk : k < (doneU l c s n).length) (hd : (doneF l c s)[k]? = some d) : (doneU l c s n)[k]? = some d ∧ d < n := by
 have h1 := pre_get (doneU_up (l := l) (c := c) (s := s) hn) (List.getElem?_eq_getElem hk)
 have h2 : (doneU l c s n)[k] = d := by
  have h3 : (doneF l c s)[k]? = some (doneU l c s n)[k] := h1
  rw [hd] at h3
  exact (Option.some.inj h3).symm
 have h4 : (doneU l c s n)[k]? = some d := by rw [List.getElem?_eq_getElem hk, h2]
 exact ⟨h4, done_below h hn hf (List.mem_of_getElem? h4)⟩
theorem buf_cap (h : RtL l) (hc : 0 ≤ c) : ∀ {i}, i ≤ l.length → (insR l c i).buf.length ≤ (mkU l c i).getD 0 ∧ (insR l c i).size = (((mkU l c i).getD 0 : Nat) : Int)
 | 0, _ => ⟨Nat.le_refl _, rfl⟩
 | i + 1, hi => by
  obtain ⟨ih1, ih2⟩ := buf_cap h hc (i := i) (by omega)
  obtain ⟨hr, _, _, _, ho, _⟩ := h.parts (show i < l.length by omega)
  have hins : insR l c (i + 1) = insStep l c i (insR l c i) := rfl
  unfold orderedR at ho
  dsimp only at ho
  by_cases hch : (l.getD i evz).chan = c
  ·by_cases h2 : (l.getD i evz).kind = 2
   ·have hm := (h.made (show i < l.length by omega)).1 h2
    have hnone : mkU l c i = none := h.mk_new (by omega) (by omega)
    rw [hnone] at ih1
    have hv := hr.v2 h2
    have e1 : insR l c (i + 1) = ⟨(l.getD i evz).value, (insR l c i).buf, (insR l c i).closed, (insR l c i).right⟩ := by
     rw [hins]
     unfold insStep
     dsimp only
     rw [if_neg (fun e => e hch), if_pos h2, if_neg (show ¬ (l.getD i evz).kind = 5 by omega), if_pos (show (l.getD i evz).kind ≠ 3 ∧ ((l.getD i evz).kind ≠ 4 ∨ (l.getD i evz).ok = false) from ⟨by omega, .inl (by omega)⟩)]
    have e2 : mkU l c (i + 1) = some (l.getD i evz).value.toNat := by
     rw [mkU, hnone]
     dsimp only
     rw [if_pos ⟨h2, hch⟩]
    rw [e1, e2]
    refine ⟨?_, ?_⟩
    ·have : (insR l c i).buf.length ≤ 0 := ih1
     show (insR l c i).buf.length ≤ _
     omega
    ·show (l.getD i evz).value = (((l.getD i evz).value.toNat : Nat) : Int)
     omega
   ·have e2 : mkU l c (i + 1) = mkU l c i := mkU_keep (fun e => h2 e.1)
    rw [e2]
    by_cases hk : (l.getD i evz).kind ≠ 3 ∧ ((l.getD i evz).kind ≠ 4 ∨ (l.getD i evz).ok = false)
    ·have e1 : (insR l c (i + 1)).buf = (insR l c i).buf ∧ (insR l c (i + 1)).size = (insR l c i).size := by
      rw [hins]
      unfold insStep
      dsimp only
      rw [if_neg (fun e => e hch), if_neg h2, if_pos hk]
      exact ⟨rfl, rfl⟩
     rw [e1.1, e1.2]
     exact ⟨ih1, ih2⟩
    ·rw [if_neg hk, hch] at ho
     have e1 : (insR l c (i + 1)).size = (insR l c i).size ∧ ((insR l c (i + 1)).right = true → ((insR l c (i + 1)).buf.length : Int) ≤ (insR l c (i + 1)).size) := by
      rw [hins]
      unfold insStep
      dsimp only
      rw [if_neg (fun e => e hch), if_neg h2, if_neg hk]
      split
      ·split
       ·refine ⟨rfl, fun hh => ?_⟩
        dsimp only at hh ⊢
        rw [Bool.and_eq_true, decide_eq_true_eq] at hh
        exact hh.2
       ·refine ⟨rfl, fun hh => ?_⟩
        dsimp only at hh ⊢
        rw [Bool.and_eq_true, decide_eq_true_eq] at hh
        exact hh.2
      ·refine ⟨rfl, fun hh => ?_⟩
       dsimp only at hh ⊢
       rw [Bool.and_eq_true, decide_eq_true_eq] at hh
       exact hh.2
     have e3 := e1.2 ho
     rw [e1.1, ih2] at e3
     exact ⟨by omega, by rw [e1.1, ih2]⟩
  ·have e1 : insR l c (i + 1) = insR l c i := by
    rw [hins]
    unfold insStep
    dsimp only
    rw [if_pos hch]
   rw [e1, mkU_keep (fun e => hch e.2)]
   exact ⟨ih1, ih2⟩
theorem btw_take {f t : Nat} (ht : t ≤ n) : btwF (l.take n) f t g = btwF l f t g := by
 rw [Bool.eq_iff_iff, btw_iff, btw_iff]
 constructor
 ·rintro ⟨k, h1, h2, h3, h4⟩
  rw [take_getD (by omega)] at h3 h4
  exact ⟨k, h1, h2, h3, h4⟩
 ·rintro ⟨k, h1, h2, h3, h4⟩
  exact ⟨k, h1, h2, by rw [take_getD (by omega)]; exact h3, by rw [take_getD (by omega)]; exact h4⟩
theorem crs_take (h : RtL l) (hn : n < l.length) (hf : FullAt l n) {f t r : Nat} (ht : t < n) (hft : f < t) (hr : crsF l f t r = true) : crsF (l.take n) f t r = true := by
 rw [crs_iff] at hr ⊢
 obtain ⟨hc, k, o, ho, hh⟩ := hr
 rw [take_getD ht]
 generalize hcc : (l.getD t evz).chan = c at *
 have hkd : (l.getD t evz).kind ≠ 2 := by
  have key : ∀ {s : Bool} {k : Nat}, (doneF l c s)[k]? = some t → (l.getD t evz).kind ≠ 2 := by
   intro s k hk
   obtain ⟨j, _, b⟩ := done_get h hk
   have := b.kind
   rcases b.is with ⟨rfl, _⟩ | ⟨rfl, _, _, _, h2, _⟩ <;> omega
  rcases hh with ⟨_, e, _⟩ | ⟨_, e, _⟩
  ·exact key (by rw [e]; exact ho)
  ·exact key e
 have hsz : sizeF (l.take n) c = sizeF l c ∧ (mkU l c n).getD 0 = sizeF l c := by
  have hm := (h.made (show t < l.length by omega)).2 hkd
  rw [hcc] at hm
  obtain ⟨cn, rfl⟩ : ∃ cn : Nat, c = cn := ⟨c.toNat, by omega⟩
  obtain ⟨v, hv⟩ := mkU_made h (i := t) (by omega) (by omega : cn < makesR l t)
  have h1 : mkU l (cn : Int) n = some v := mkU_mono (by omega) hv
  have h2 : mkU l (cn : Int) l.length = some v := mkU_mono (by omega) hv
  rw [size_is, size_is, mkU_take (Nat.le_of_eq (by rw [List.length_take]; omega)), show (l.take n).length = n by rw [List.length_take]; omega, h1, h2]
  exact ⟨rfl, rfl⟩
 rw [hsz.1, done_full (by omega) hf, done_full (by omega) hf]
 have hb := bal (c := c) h hn
 have hcap := (buf_cap h hc (show n ≤ l.length by omega)).1
 rw [hsz.2] at hcap
 refine ⟨hc, k, o, ?_⟩
 rcases hh with ⟨h3, rfl, p, hp, hfp⟩ | ⟨hfo, hin, h56⟩
 ·have h1 := done_at h ht l.length (by omega) (Nat.le_refl _) ho
  have hk := (List.getElem?_eq_some_iff.1 h1).1
  obtain ⟨h2, hpn⟩ := done_idx h (by omega) hf (show k < (doneU l c true n).length by omega) hp
  exact ⟨h1, .inl ⟨h3, rfl, p, h2, by rw [hfp, beg_take hpn]⟩⟩
 ·have h1 := done_at h ht l.length (by omega) (Nat.le_refl _) hin
  have hk := (List.getElem?_eq_some_iff.1 h1).1
  obtain ⟨h2, hon⟩ := done_idx h (by omega) hf (show k < (doneU l c false n).length by omega) ho
  exact ⟨h2, .inr ⟨by rw [hfo, beg_take hon], h1, h56⟩⟩
theorem all_grow (h : RtL l) (hn : n ≤ l.length) (hf : FullAt l n) (hx : x ∈ allE l) (hd : x.dst < n) : x ∈ allE (l.take n) := by
 rcases Nat.lt_or_ge n l.length with hn2 | hn2
 ·obtain ⟨h1, h2, h3, h4, h5⟩ := (mem_all h).1 hx
  refine (mem_all (h.take hn)).2 ⟨by rw [List.length_take]; omega, h2, h3, h4, ?_⟩
  have h13 := is13 h5
  unfold isF at h5 ⊢
  rw [take_getD hd, take_getD (show x.src < n by omega), btw_take (by omega)]
  rw [if_neg (fun e => e.elim h13.1 h13.2)] at h5 ⊢
  by_cases e1 : x.rule = 1
  ·rw [if_pos e1] at h5 ⊢
   exact h5
  ·rw [if_neg e1] at h5 ⊢
   by_cases e2 : x.rule = 2
   ·rw [if_pos e2] at h5 ⊢
    exact h5
   ·rw [if_neg e2] at h5 ⊢
    by_cases e4 : x.rule = 4
    ·rw [if_pos e4] at h5 ⊢
     exact h5
    ·rw [if_neg e4] at h5 ⊢
     exact crs_take h hn2 hf hd h2 h5
 ·rw [List.take_of_length_le hn2]
  exact hx
theorem rel_take (h : RtL l) (hn : n ≤ l.length) (hf : FullAt l n) (hb : b < n) : relE (allE (l.take n)) a b = relE (allE l) a b := by
 rw [Bool.eq_iff_iff, relE_iff, relE_iff]
 constructor
 ·rintro ⟨x, hx, h1, h2⟩
  exact ⟨x, all_perm.mem_iff.2 (raw_take h hn (all_perm.mem_iff.1 hx)), h1, h2⟩
 ·rintro ⟨x, hx, h1, h2⟩
  exact ⟨x, all_grow h hn hf hx (by omega), h1, h2⟩
theorem ah_take (h : RtL l) (hn : n ≤ l.length) (hf : FullAt l n) (hb : b < n) : ahF (l.take n) a b = ahF l a b := by
 rw [Bool.eq_iff_iff, ah_iff (h.take hn), ah_iff h]
 constructor
 ·refine fun ht => ht.mono (fun a b hr => ?_)
  have hb := (rel_lt (h.take hn) hr).2.1
  rw [List.length_take] at hb
  rw [← rel_take h hn hf (show b < n by omega)]
  exact hr
 ·intro ht
  induction ht with
  | one hr => exact .one (by rw [rel_take h hn hf hb]; exact hr)
  | @more k b h1 hr ih =>
   have := (rel_lt h hr).1
   exact .more (ih (by omega)) (by rw [rel_take h hn hf hb]; exact hr)
theorem hit_take {cell : Int} (h : RtL l) (hn : n ≤ l.length) (hf : FullAt l n) (hi : i < n) : hitF (l.take n) cell i = hitF l cell i := by
 have e : ∀ j, j < n → accF (l.take n) cell j = accF l cell j := fun j hj => by
  unfold accF
  rw [take_getD hj]
 unfold hitF
 rw [e i hi]
 congr 1
 rw [Bool.eq_iff_iff, List.any_eq_true, List.any_eq_true]
 have step : ∀ a, a < i → (accF (l.take n) cell a && raceF (l.take n) a i) = (accF l cell a && raceF l a i) := fun a ha => by
  unfold raceF
  rw [e a (by omega), take_getD (show a < n by omega), take_getD hi, ah_take h hn hf hi, ah_take h hn hf (show a < n by omega)]
 constructor
 ·rintro ⟨a, ha, h1⟩
  exact ⟨a, ha, by rw [← step a (List.mem_range.1 ha)]; exact h1⟩
 ·rintro ⟨a, ha, h1⟩
  exact ⟨a, ha, by rw [step a (List.mem_range.1 ha)]; exact h1⟩
theorem find_take {p q : Nat → Bool} (hn : n ≤ m) (hpq : ∀ i, i < n → q i = p i) : (List.range n).find? q = ((List.range m).find? p).filter (fun i => decide (i < n)) := by
 obtain ⟨d, rfl⟩ : ∃ d, m = n + d := ⟨m - n, by omega⟩
 have e : (List.range n).find? q = (List.range n).find? p := by
  have : ∀ L : List Nat, (∀ i ∈ L, i < n) → L.find? q = L.find? p := by
   intro L
   induction L with
   | nil => intro _; rfl
   | cons a L ih =>
    intro hL
    rw [List.find?_cons, List.find?_cons, hpq a (hL a List.mem_cons_self), ih (fun i hi => hL i (List.mem_cons_of_mem _ hi))]
  exact this _ fun i hi => List.mem_range.1 hi
 rw [e, List.range_add, List.find?_append]
 cases hf : (List.range n).find? p with
 | some a =>
  have ha := List.mem_range.1 (List.mem_of_find?_eq_some hf)
  simp [Option.filter, ha]
 | none =>
  cases hg : (List.map (n + ·) (List.range d)).find? p with
  | none => rfl
  | some a =>
   obtain ⟨b, _, rfl⟩ := List.mem_map.1 (List.mem_of_find?_eq_some hg)
   simp [Option.filter]
theorem frs_take {cell : Int} (h : RtL l) (hn : n ≤ l.length) (hf : FullAt l n) : frsF (l.take n) cell = (frsF l cell).filter (fun i => decide (i < n)) := by
 unfold frsF
 rw [show (l.take n).length = n by rw [List.length_take]; omega]
 exact find_take hn fun i hi => hit_take h hn hf hi
end
end Go.Proofs.YtoamjodmidbmbaaGreatDoor
