/- Texts of the proof. -/
import Derived.Test.YtoamjodmidbmbaaGreatDoorX21
import Derived.Test.YtoamjodmidbmbaaGreatDoorX19
import Derived.Test.YtoamjodmidbmbaaGreatDoorX05
import Derived.ProofKit
import Derived.OpenShut
import Derived.Deep.Slices
set_option linter.unusedVariables false
set_option linter.unusedSimpArgs false
namespace Go.Proofs.YtoamjodmidbmbaaGreatDoor
open Go.RowKit
set_option maxRecDepth 100000
theorem yq_in {w : World} {F : List Piece} {p n i tc : Nat} {ta : Option Addr} (hi : i < n) (H : SL w (row p #[.slice ta n tc] 104 :: F)) : Calls Tryz.prog 50 #[.pointer (some ⟨p, 0, none⟩), .int .i64 (i : Int)] w fun o w' => o = .returned (.bool true) ∧ SL w' (row p #[.slice ta n tc] 104 :: F) := by
 refine calls_d (args := [_, _]) Tryz.func50 rfl ?_
 refine ⟨⟨BB.yd ?_⟩⟩
 refine H.ldi 0 rfl (v := .slice ta n tc) rfl (BB.yd (ret1 (.bool true) rfl (by rfl) ?_))
 exact ⟨rfl, H⟩
theorem yq_has {w : World} {F : List Piece} {p n : Nat} {M : Nat → Nat → Bool} {i k : Nat} (hi : i < n) (hk : k < n) (hn : n ≤ 1024) (H : SL w (RMP p n M :: F)) : Calls Tryz.prog 25 #[.pointer (some ⟨p, 0, none⟩), .int .i64 (i : Int), .int .i64 (k : Int)] w fun o w' => o = .returned (.bool (M i k)) ∧ SL w' (RMP p n M :: F) := by
 obtain ⟨tv, bs, hbl, H⟩ := RMP.iff.1 H
 obtain ⟨ta, tc, rfl⟩ := SL.slcForm H.up1
 obtain ⟨tb, rfl⟩ := SL.slcAddr H.up1 (by omega)
 obtain ⟨b_i, hb_i⟩ : ∃ b, bs[i]? = some b := ⟨_, get_of (by omega)⟩
 refine calls_d (args := [_, _, _]) Tryz.func25 rfl ?_
 refine ⟨⟨?_⟩⟩
 have h1 := H
 refine Cl.s (yq_in (by omega) h1) fun w H => ?_
 refine BB.yes rfl ?_
 have h1 := H
 refine Cl.s (yq_in (by omega) h1) fun w H => ?_
 refine BB.yes rfl (H.ldi 0 rfl (v := .slice (some ⟨tb, 0, none⟩) n tc) rfl (Ix.at0 i 1 (by kernel_rfl) (rfl) (by omega) ?_))
 refine H.ldS 1 rfl (v := .slice (some ⟨b_i, 0, none⟩) n n) (tcells_at hb_i) (Ix.at0 k 1 (by kernel_rfl) (rfl) (by omega) ?_)
 refine H.ldRB 2 rfl hb_i (by omega) (BB.k (ret1 (.bool (M i k)) rfl (by rfl) ?_))
 exact ⟨rfl, RMP.iff.2 ⟨_, bs, hbl, H⟩⟩
theorem yq_set {w : World} {F : List Piece} {p n : Nat} {M : Nat → Nat → Bool} {i k : Nat} (hi : i < n) (hk : k < n) (hn : n ≤ 1024) (H : SL w (RMP p n M :: F)) : Calls Tryz.prog 47 #[.pointer (some ⟨p, 0, none⟩), .int .i64 (i : Int), .int .i64 (k : Int)] w fun o w' => o = .returned (.int .i64 0) ∧ SL w' (RMP p n (setR M i k) :: F) := by
 obtain ⟨tv, bs, hbl, H⟩ := RMP.iff.1 H
 obtain ⟨ta, tc, rfl⟩ := SL.slcForm H.up1
 obtain ⟨tb, rfl⟩ := SL.slcAddr H.up1 (by omega)
 obtain ⟨b_i, hb_i⟩ : ∃ b, bs[i]? = some b := ⟨_, get_of (by omega)⟩
 refine calls_d (args := [_, _, _]) Tryz.func47 rfl ?_
 refine ⟨⟨?_⟩⟩
 have h1 := H
 refine Cl.s (yq_in (by omega) h1) fun w H => ?_
 refine BB.yes rfl (BB.no rfl ?_)
 have h1 := H
 refine Cl.s (yq_in (by omega) h1) fun w H => ?_
 refine BB.yes rfl (BB.no rfl (Cn.no (⟨H.ldi 0 rfl (v := .slice (some ⟨tb, 0, none⟩) n tc) rfl ?_⟩)))
 refine Ix.at0 i 1 (by kernel_rfl) (rfl) (by omega) ?_
 refine H.ldS 1 rfl (v := .slice (some ⟨b_i, 0, none⟩) n n) (tcells_at hb_i) (Ix.at0 k 1 (by kernel_rfl) (rfl) (by omega) ?_)
 refine SL.stRB H.up2 hb_i hk fun w H => ?_
 replace H := H.dn2
 refine ⟨ret1 (.int .i64 0) rfl (by rfl) ?_⟩
 exact ⟨rfl, RMP.iff.2 ⟨_, bs, hbl, (RowsB.same (fun a b _ _ => by unfold setR; by_cases e : a = i ∧ b = k <;> simp [e]) (H.pi [2, 0, 1] 3)).dn2⟩⟩
theorem yq_new {w : World} {F : List Piece} {n : Nat} (hn : n ≤ 1024) (H : SL w F) : Calls Tryz.prog 46 #[.int .i64 (n : Int)] w fun o w' => ∃ p, o = .returned (.tuple #[.pointer (some ⟨p, 0, none⟩), .int .i64 0]) ∧ SL w' (RMP p n (fun _ _ => false) :: F) := by
 refine calls_d (args := [_]) Tryz.func46 rfl ?_
 refine ⟨⟨BB.nd ?_⟩⟩
 refine BB.nd (Cn.no (⟨Mn.pure (.agg #[.slice none 0 0]) (by kernel_rfl) ?_⟩))
 refine Nw.as #[.slice none 0 0] 104 rfl H fun b13 w H => ?_
 refine ⟨⟨?_⟩⟩
 have q := SL.slcNil 101 1 (RowsB.nil (n := n) (M := fun _ _ => false) H)
 replace q := q.pi [0, 2, 1] 3
 simp only [pl, nth, drL] at q
 refine den.loop (ι := Nat × List Nat × Value) [(5, 5), (14, 29)] (by kernel_rfl) (fun (i, bs, rv) => [(5, .int .i64 ↑i)]) (fun (i, bs, rv) w => (i ≤ n ∧ bs.length = i) ∧ SL w (Slc 101 1 rv i (tcells n bs) :: row b13 #[rv] 104 :: RowsB bs n (fun _ _ => false) :: F)) (fun (i, bs, rv) => n - i) (0, [], (.slice none 0 0)) ⟨rfl, trivial⟩ ⟨⟨Nat.zero_le _, rfl⟩, q⟩ ?_
 rintro ⟨i, bs, rv⟩ s w ⟨hc, H⟩
 obtain ⟨hi0, hbl⟩ := hc
 have hob := SL.slcForm H
 obtain ⟨ra, rc, rfl⟩ := hob
 have hob := Nat.lt_or_ge i n
 rcases hob with hi | hi
 ·refine ⟨BB.yd ?_⟩
  refine Cn.yes (⟨⟨Drw.oft (.calm 0 (.calm 1 (.calm 2 (.calm 3 (.calm 4 (.calm 5 (.act 6 false (.act 7 false (.act 8 false (.pure 9 (.pure 10 (.act 11 true .nil)))))))))))) (by kernel_rfl) mixed (fun w => SL w _) (H.drew.pi [1, 2] 3) ?_⟩⟩)
  replace H := H.drew
  refine LdC.i 0 rfl (v := .slice ra i rc) rfl (Mn.makeR (sz := 1) (te := 4) (bytes := 1) H (.tmp 24) (.tmp 24) 101 n (by rfl) (by kernel_rfl) (.bool false) (by kernel_rfl) (by rfl) (by rfl) (by omega) (by decide) fun bn w H => ?_)
  rw [show (Value.bool false).cells = #[Value.bool false] from rfl, made_bools] at H
  refine ⟨.inr (H.pi [2, 3] 4), ?_⟩
  refine Mn.new (fun b => .slice (some ⟨b, 0, none⟩) 1 1) #[.slice (some ⟨bn, 0, none⟩) n n] 101 (by kernel_rfl) H fun b26 w H => ?_
  refine ⟨.inr (H.pi [3, 4] 5), ?_⟩
  refine SL.appS H.up2 (.tmp 23) (.tmp 26) 102 (.slice none 0 0) 24 (by rfl) (by kernel_rfl) (by kernel_rfl) (by rfl) (by decide) (by rfl) (some ⟨b26, 0, none⟩) 1 1 [.slice (some ⟨bn, 0, none⟩) n n] (by rfl) (H.rdRow 0 rfl (by rfl) (by decide)) (by rfl) (by omega) (by decide) (by decide) fun g1 c1 w H => ?_
  refine ⟨.inr (H.pi [3, 4] 5), ?_⟩
  refine H.st3 (cs' := #[.slice (some ⟨g1, 0, none⟩) (i + 1) c1]) rfl rfl rfl fun w H => ?_
  refine ⟨.inl rfl, ?_⟩
  refine ⟨IW.i i ?_⟩
  have q := H.pi [2, 4, 0, 3] 5
  simp only [pl, nth, drL] at q
  replace q := RowsB.snoc (M := fun _ _ => false) (bs := bs) rfl q
  replace q := q.pi [1, 2, 0] 3
  simp only [pl, nth, drL] at q
  rw [← tcells_snoc] at q
  exact ⟨(i + 1, bs ++ [bn], (.slice (some ⟨g1, 0, none⟩) (i + 1) c1)), ⟨rfl, trivial⟩, ⟨⟨by omega, by rw [List.length_append, hbl]; rfl⟩, q⟩, (show n - (i + 1) < n - i by omega)⟩
 have hob : n = i := by omega
 obtain rfl := hob
 refine ⟨BB.nd ?_⟩
 refine Cn.no (⟨ret2 (.pointer (some ⟨b13, 0, none⟩)) (.int .i64 0) rfl (by rfl) (by rfl) ?_⟩)
 exact ⟨b13, rfl, RMP.iff.2 ⟨.slice ra n rc, bs, hbl, H.pi [1, 0, 2] 3⟩⟩
theorem step_copy {f : Nat → Bool} {k x : Nat} : (if x < k + 1 then f x else false) = (if x = k then f k else if x < k then f x else false) := by
 by_cases e : x = k
 ·rw [if_pos e, if_pos (by omega), e]
 ·rw [if_neg e]
  by_cases h : x < k
  ·rw [if_pos h, if_pos (by omega)]
  ·rw [if_neg h, if_neg (by omega)]
theorem step_orF {o r : Nat → Bool} {k x : Nat} (h : (fun x => if x < k then o x || r x else o x) k = false) : (if x < k + 1 then o x || r x else o x) = (if x = k then r k else (fun x => if x < k then o x || r x else o x) x) := by
 dsimp only at h ⊢
 rw [if_neg (Nat.lt_irrefl k)] at h
 by_cases e : x = k
 ·rw [if_pos e, if_pos (by omega), e, h, Bool.false_or]
 ·rw [if_neg e]
  by_cases h2 : x < k
  ·rw [if_pos h2, if_pos (by omega)]
  ·rw [if_neg h2, if_neg (by omega)]
theorem step_orT {o r : Nat → Bool} {k x : Nat} (h : (fun x => if x < k then o x || r x else o x) k = true) : (if x < k + 1 then o x || r x else o x) = (if x = k then true else (fun x => if x < k then o x || r x else o x) x) := by
 dsimp only at h ⊢
 rw [if_neg (Nat.lt_irrefl k)] at h
 by_cases e : x = k
 ·rw [if_pos e, if_pos (by omega), e, h, Bool.true_or]
 ·rw [if_neg e]
  by_cases h2 : x < k
  ·rw [if_pos h2, if_pos (by omega)]
  ·rw [if_neg h2, if_neg (by omega)]
theorem yq_from {w : World} {F : List Piece} {p n : Nat} {M : Nat → Nat → Bool} {i : Nat} (hi : i < n) (hn : n ≤ 1024) (H : SL w (RMP p n M :: F)) : Calls Tryz.prog 86 #[.pointer (some ⟨p, 0, none⟩), .int .i64 (i : Int)] w fun o w' => ∃ b, o = .returned (.slice (some ⟨b, 0, none⟩) n n) ∧ SL w' (row b (boolsA n (frmM M n i n)) 4 :: RMP p n M :: F) := by
 obtain ⟨tv, bs, hbl, H⟩ := RMP.iff.1 H
 obtain ⟨ta, tc, rfl⟩ := SL.slcForm H.up1
 obtain ⟨tb, rfl⟩ := SL.slcAddr H.up1 (by omega)
 obtain ⟨b_i, hb_i⟩ : ∃ b, bs[i]? = some b := ⟨_, get_of (by omega)⟩
 refine calls_d (args := [_, _]) Tryz.func86 rfl ?_
 refine ⟨⟨H.ldi 0 rfl (v := .slice (some ⟨tb, 0, none⟩) n tc) rfl ?_⟩⟩
 refine Mn.makeR (sz := 1) (te := 4) (bytes := 1) H (.tmp 14) (.tmp 14) 101 n (by rfl) (by kernel_rfl) (.bool false) (by kernel_rfl) (by rfl) (by rfl) (by omega) (by decide) fun bo w H => ?_
 rw [show (Value.bool false).cells = #[Value.bool false] from rfl, made_bools] at H
 refine ⟨H.ldi 1 rfl (v := .slice (some ⟨tb, 0, none⟩) n tc) rfl ?_⟩
 refine ⟨?_⟩
 have q : SL w (row bo (boolsA n (fun x => if x < 0 then M i x else false)) 4 :: row p #[.slice (some ⟨tb, 0, none⟩) n tc] 104 :: Slc 101 1 (.slice (some ⟨tb, 0, none⟩) n tc) n (tcells n bs) :: RowsB bs n M :: F) := by
  rw [show boolsA n (fun x => if x < 0 then M i x else false) = boolsA n (fun _ => false) from boolsA_congr fun x hx => if_neg (Nat.not_lt_zero x)]
  exact H
 refine den.loop (ι := Nat) [(6, 6), (21, 37)] (by kernel_rfl) (fun k => [(21, .int .i64 ↑k)]) (fun k w => k ≤ n ∧ SL w (row bo (boolsA n (fun x => if x < k then M i x else false)) 4 :: row p #[.slice (some ⟨tb, 0, none⟩) n tc] 104 :: Slc 101 1 (.slice (some ⟨tb, 0, none⟩) n tc) n (tcells n bs) :: RowsB bs n M :: F)) (fun k => n - k) 0 ⟨rfl, trivial⟩ ⟨Nat.zero_le _, q⟩ ?_
 rintro k s w ⟨hk0, H⟩
 have hob := Nat.lt_or_ge k n
 rcases hob with hk | hk
 ·refine ⟨BB.yd ?_⟩
  refine Cn.yes (⟨⟨⟨H.ldi 1 rfl (v := .slice (some ⟨tb, 0, none⟩) n tc) rfl ?_⟩⟩⟩)
  refine Ix.at0 i 1 (by kernel_rfl) (rfl) (by omega) ?_
  refine H.ldS 2 rfl (v := .slice (some ⟨b_i, 0, none⟩) n n) (tcells_at hb_i) (Ix.at0 k 1 (by kernel_rfl) (rfl) (by omega) ?_)
  refine H.ldRB 3 rfl hb_i (by omega) (BB.k (Ix.at0 k 1 (by kernel_rfl) (rfl) (by omega) ?_))
  refine H.st0 (cs' := boolsA n (fun x => if x = k then (M i k) else (fun x => if x < k then M i x else false) x)) boolsA_set (boolsA_blt (by omega)) rfl fun w H => ?_
  refine ⟨IW.i k ?_⟩
  have q : SL w (row bo (boolsA n (fun x => if x < (k + 1) then M i x else false)) 4 :: row p #[.slice (some ⟨tb, 0, none⟩) n tc] 104 :: Slc 101 1 (.slice (some ⟨tb, 0, none⟩) n tc) n (tcells n bs) :: RowsB bs n M :: F) := by
   rw [show boolsA n (fun x => if x < (k + 1) then M i x else false) = boolsA n (fun x => if x = k then (M i k) else (fun x => if x < k then M i x else false) x) from boolsA_congr fun x hx => step_copy]
   exact H
  exact ⟨k + 1, ⟨rfl, trivial⟩, ⟨(by omega : k + 1 ≤ n), q⟩, (show n - (k + 1) < n - k by omega)⟩
 have hob : n = k := by omega
 obtain rfl := hob
 refine ⟨BB.nd ?_⟩
 refine Cn.no (⟨⟨?_⟩⟩)
 have q : SL w (row bo (boolsA n (frmM M n i 0)) 4 :: row p #[.slice (some ⟨tb, 0, none⟩) n tc] 104 :: Slc 101 1 (.slice (some ⟨tb, 0, none⟩) n tc) n (tcells n bs) :: RowsB bs n M :: F) := by
  rw [show boolsA n (frmM M n i 0) = boolsA n (fun x => if x < n then M i x else false) from boolsA_congr fun x hx => (if_pos hx).symm]
  exact H
 refine den.loop (ι := Nat) [(7, 9), (38, 88)] (by kernel_rfl) (fun m => [(7, .int .i64 ↑m)]) (fun m w => m ≤ n ∧ SL w (row bo (boolsA n (frmM M n i m)) 4 :: row p #[.slice (some ⟨tb, 0, none⟩) n tc] 104 :: Slc 101 1 (.slice (some ⟨tb, 0, none⟩) n tc) n (tcells n bs) :: RowsB bs n M :: F)) (fun m => n - m) 0 ⟨rfl, trivial⟩ ⟨Nat.zero_le _, q⟩ ?_
 rintro m s w ⟨hm0, H⟩
 have hob := Nat.lt_or_ge m n
 rcases hob with hm | hm
 ·refine ⟨H.ldi 1 rfl (v := .slice (some ⟨tb, 0, none⟩) n tc) rfl ?_⟩
  refine BB.yd (Cn.yes (⟨⟨H.ldi 1 rfl (v := .slice (some ⟨tb, 0, none⟩) n tc) rfl ?_⟩⟩))
  refine ⟨?_⟩
  have q : SL w (row bo (boolsA n (swpM M (frmM M n i m) 0)) 4 :: row p #[.slice (some ⟨tb, 0, none⟩) n tc] 104 :: Slc 101 1 (.slice (some ⟨tb, 0, none⟩) n tc) n (tcells n bs) :: RowsB bs n M :: F) := by
   rw [show boolsA n (swpM M (frmM M n i m) 0) = boolsA n (frmM M n i m) from boolsA_congr fun x hx => rfl]
   exact H
  refine den.loop (ι := Nat) [(8, 9), (52, 88)] (by kernel_rfl) (fun j => [(52, .int .i64 ↑j)]) (fun j w => j ≤ n ∧ SL w (row bo (boolsA n (swpM M (frmM M n i m) j)) 4 :: row p #[.slice (some ⟨tb, 0, none⟩) n tc] 104 :: Slc 101 1 (.slice (some ⟨tb, 0, none⟩) n tc) n (tcells n bs) :: RowsB bs n M :: F)) (fun j => n - j) 0 ⟨rfl, trivial⟩ ⟨Nat.zero_le _, q⟩ ?_
  rintro j s w ⟨hj0, H⟩
  have hob := Nat.lt_or_ge j n
  rcases hob with hj | hj
  ·have hob : ∃ b, bs[j]? = some b := ⟨_, get_of (by omega)⟩
   obtain ⟨b_j, hb_j⟩ := hob
   have hob : ∃ bq0 : Bool, swpM M (frmM M n i m) j j = bq0 := ⟨_, rfl⟩
   obtain ⟨bq, ho⟩ := hob
   cases bq
   ·refine ⟨BB.yd ?_⟩
    refine Cn.yes (⟨⟨⟨Ix.at0 j 1 (by kernel_rfl) (rfl) (by omega) ?_⟩⟩⟩)
    refine H.ldi 0 rfl (v := .bool ((swpM M (frmM M n i m) j) j)) (boolsA_at (by omega)) (BB.no ho (BB.yes rfl (Cn.yes (⟨IW.i j ?_⟩))))
    have q : SL w (row bo (boolsA n (swpM M (frmM M n i m) (j + 1))) 4 :: row p #[.slice (some ⟨tb, 0, none⟩) n tc] 104 :: Slc 101 1 (.slice (some ⟨tb, 0, none⟩) n tc) n (tcells n bs) :: RowsB bs n M :: F) := by
     rw [show boolsA n (swpM M (frmM M n i m) (j + 1)) = boolsA n (swpM M (frmM M n i m) j) from boolsA_congr fun x hx => (by rw [swpM, if_neg (by rw [ho]; decide)])]
     exact H
    exact ⟨j + 1, ⟨rfl, trivial⟩, ⟨(by omega : j + 1 ≤ n), q⟩, (show n - (j + 1) < n - j by omega)⟩
   refine ⟨BB.yd ?_⟩
   refine Cn.yes (⟨⟨⟨Ix.at0 j 1 (by kernel_rfl) (rfl) (by omega) ?_⟩⟩⟩)
   refine H.ldi 0 rfl (v := .bool ((swpM M (frmM M n i m) j) j)) (boolsA_at (by omega)) (BB.yes ho (BB.no rfl (Cn.no (⟨H.ldi 1 rfl (v := .slice (some ⟨tb, 0, none⟩) n tc) rfl ?_⟩))))
   refine ⟨?_⟩
   have q : SL w (row bo (boolsA n (fun x => if x < 0 then swpM M (frmM M n i m) j x || M j x else swpM M (frmM M n i m) j x)) 4 :: row p #[.slice (some ⟨tb, 0, none⟩) n tc] 104 :: Slc 101 1 (.slice (some ⟨tb, 0, none⟩) n tc) n (tcells n bs) :: RowsB bs n M :: F) := by
    rw [show boolsA n (fun x => if x < 0 then swpM M (frmM M n i m) j x || M j x else swpM M (frmM M n i m) j x) = boolsA n (swpM M (frmM M n i m) j) from boolsA_congr fun x hx => (if_neg (Nat.not_lt_zero x))]
    exact H
   refine den.loop (ι := Nat) [(9, 9), (65, 87)] (by kernel_rfl) (fun k => [(65, .int .i64 ↑k)]) (fun k w => k ≤ n ∧ SL w (row bo (boolsA n (fun x => if x < k then swpM M (frmM M n i m) j x || M j x else swpM M (frmM M n i m) j x)) 4 :: row p #[.slice (some ⟨tb, 0, none⟩) n tc] 104 :: Slc 101 1 (.slice (some ⟨tb, 0, none⟩) n tc) n (tcells n bs) :: RowsB bs n M :: F)) (fun k => n - k) 0 ⟨rfl, trivial⟩ ⟨Nat.zero_le _, q⟩ ?_
   rintro k s w ⟨hk0, H⟩
   have hob := Nat.lt_or_ge k n
   rcases hob with hk | hk
   ·have hob : ∃ v, (fun x => if x < k then swpM M (frmM M n i m) j x || M j x else swpM M (frmM M n i m) j x) k = v := ⟨_, rfl⟩
    obtain ⟨v1, hv1⟩ := hob
    refine ⟨BB.yd ?_⟩
    refine Cn.yes (⟨⟨⟨Ix.at0 k 1 (by kernel_rfl) (rfl) (by omega) ?_⟩⟩⟩)
    refine H.ldi 0 rfl (v := .bool ((fun x => if x < k then swpM M (frmM M n i m) j x || M j x else swpM M (frmM M n i m) j x) k)) (boolsA_at (by omega)) ?_
    refine BB.vr fun q1 e1 => ?_
    cases q1
    ·refine H.ldi 1 rfl (v := .slice (some ⟨tb, 0, none⟩) n tc) rfl (Ix.at0 j 1 (by kernel_rfl) (rfl) (by omega) ?_)
     refine H.ldS 2 rfl (v := .slice (some ⟨b_j, 0, none⟩) n n) (tcells_at hb_j) (Ix.at0 k 1 (by kernel_rfl) (rfl) (by omega) ?_)
     refine H.ldRB 3 rfl hb_j (by omega) (BB.k (Ix.at0 k 1 (by kernel_rfl) (rfl) (by omega) ?_))
     refine H.st0 (cs' := boolsA n (fun x => if x = k then (M j k) else (fun x => if x < k then swpM M (frmM M n i m) j x || M j x else swpM M (frmM M n i m) j x) x)) boolsA_set (boolsA_blt (by omega)) rfl fun w H => ?_
     refine ⟨IW.i k ?_⟩
     have q : SL w (row bo (boolsA n (fun x => if x < (k + 1) then swpM M (frmM M n i m) j x || M j x else swpM M (frmM M n i m) j x)) 4 :: row p #[.slice (some ⟨tb, 0, none⟩) n tc] 104 :: Slc 101 1 (.slice (some ⟨tb, 0, none⟩) n tc) n (tcells n bs) :: RowsB bs n M :: F) := by
      rw [show boolsA n (fun x => if x < (k + 1) then swpM M (frmM M n i m) j x || M j x else swpM M (frmM M n i m) j x) = boolsA n (fun x => if x = k then (M j k) else (fun x => if x < k then swpM M (frmM M n i m) j x || M j x else swpM M (frmM M n i m) j x) x) from boolsA_congr fun x hx => step_orF (o := swpM M (frmM M n i m) j) (r := M j) e1]
      exact H
     exact ⟨k + 1, ⟨rfl, trivial⟩, ⟨(by omega : k + 1 ≤ n), q⟩, (show n - (k + 1) < n - k by omega)⟩
    refine Ix.at0 k 1 (by kernel_rfl) (rfl) (by omega) ?_
    refine H.st0 (cs' := boolsA n (fun x => if x = k then true else (fun x => if x < k then swpM M (frmM M n i m) j x || M j x else swpM M (frmM M n i m) j x) x)) boolsA_set (boolsA_blt (by omega)) rfl fun w H => ?_
    refine ⟨IW.i k ?_⟩
    have q : SL w (row bo (boolsA n (fun x => if x < (k + 1) then swpM M (frmM M n i m) j x || M j x else swpM M (frmM M n i m) j x)) 4 :: row p #[.slice (some ⟨tb, 0, none⟩) n tc] 104 :: Slc 101 1 (.slice (some ⟨tb, 0, none⟩) n tc) n (tcells n bs) :: RowsB bs n M :: F) := by
     rw [show boolsA n (fun x => if x < (k + 1) then swpM M (frmM M n i m) j x || M j x else swpM M (frmM M n i m) j x) = boolsA n (fun x => if x = k then true else (fun x => if x < k then swpM M (frmM M n i m) j x || M j x else swpM M (frmM M n i m) j x) x) from boolsA_congr fun x hx => step_orT (o := swpM M (frmM M n i m) j) (r := M j) e1]
     exact H
    exact ⟨k + 1, ⟨rfl, trivial⟩, ⟨(by omega : k + 1 ≤ n), q⟩, (show n - (k + 1) < n - k by omega)⟩
   have hob : n = k := by omega
   obtain rfl := hob
   refine ⟨BB.nd ?_⟩
   refine Cn.no (⟨IW.i j ?_⟩)
   have q : SL w (row bo (boolsA n (swpM M (frmM M n i m) (j + 1))) 4 :: row p #[.slice (some ⟨tb, 0, none⟩) n tc] 104 :: Slc 101 1 (.slice (some ⟨tb, 0, none⟩) n tc) n (tcells n bs) :: RowsB bs n M :: F) := by
    rw [show boolsA n (swpM M (frmM M n i m) (j + 1)) = boolsA n (fun x => if x < n then swpM M (frmM M n i m) j x || M j x else swpM M (frmM M n i m) j x) from boolsA_congr fun x hx => (by rw [swpM, if_pos ho, if_pos hx])]
    exact H
   exact ⟨j + 1, ⟨rfl, trivial⟩, ⟨(by omega : j + 1 ≤ n), q⟩, (show n - (j + 1) < n - j by omega)⟩
  have hob : n = j := by omega
  obtain rfl := hob
  refine ⟨BB.nd ?_⟩
  refine Cn.no (⟨IW.i m ?_⟩)
  have q : SL w (row bo (boolsA n (frmM M n i (m + 1))) 4 :: row p #[.slice (some ⟨tb, 0, none⟩) n tc] 104 :: Slc 101 1 (.slice (some ⟨tb, 0, none⟩) n tc) n (tcells n bs) :: RowsB bs n M :: F) := by
   rw [show boolsA n (frmM M n i (m + 1)) = boolsA n (swpM M (frmM M n i m) n) from boolsA_congr fun x hx => rfl]
   exact H
  exact ⟨m + 1, ⟨rfl, trivial⟩, ⟨(by omega : m + 1 ≤ n), q⟩, (show n - (m + 1) < n - m by omega)⟩
 have hob : n = m := by omega
 obtain rfl := hob
 refine ⟨H.ldi 1 rfl (v := .slice (some ⟨tb, 0, none⟩) n tc) rfl ?_⟩
 refine BB.nd (Cn.no (⟨ret1 (.slice (some ⟨bo, 0, none⟩) n n) rfl (by rfl) ?_⟩))
 exact ⟨bo, rfl, SL.up1 (RMP.iff.2 ⟨_, bs, hbl, SL.dn3 (H)⟩)⟩
theorem yq_close {w : World} {F : List Piece} {p n : Nat} {M : Nat → Nat → Bool} (hn : n ≤ 1024) (H : SL w (RMP p n M :: F)) : Calls Tryz.prog 48 #[.pointer (some ⟨p, 0, none⟩)] w fun o w' => o = .returned (.tuple #[]) ∧ SL w' (RMP p n (fun a b => frmM M n a n b) :: F) := by
 obtain ⟨tv, bs, hbl, H⟩ := RMP.iff.1 H
 obtain ⟨ta, tc, rfl⟩ := SL.slcForm H.up1
 refine calls_d (args := [_]) Tryz.func48 rfl ?_
 refine ⟨⟨H.ldi 0 rfl (v := .slice ta n tc) rfl ?_⟩⟩
 refine ⟨?_⟩
 have q := SL.slcNil 101 1 (RowsB.nil (n := n) (M := (fun a b => frmM M n a n b)) (RMP.iff.2 ⟨_, bs, hbl, H⟩))
 clear hbl
 refine den.loop (ι := Nat × List Nat × Value) [(2, 3), (9, 18)] (by kernel_rfl) (fun (i, cs, rv) => [(2, rv), (9, .int .i64 ↑i)]) (fun (i, cs, rv) w => (i ≤ n ∧ cs.length = i) ∧ SL w (Slc 101 1 rv i (tcells n cs) :: RowsB cs n (fun a b => frmM M n a n b) :: RMP p n M :: F)) (fun (i, cs, rv) => n - i) (0, [], (.slice none 0 0)) ⟨rfl, rfl, trivial⟩ ⟨⟨Nat.zero_le _, rfl⟩, q⟩ ?_
 rintro ⟨i, cs, rv⟩ s w ⟨hc, H⟩
 obtain ⟨hi0, hcl⟩ := hc
 have hob := SL.slcForm H
 obtain ⟨ra, rc, rfl⟩ := hob
 have hob := Nat.lt_or_ge i n
 rcases hob with hi | hi
 ·refine ⟨BB.yd ?_⟩
  refine Cn.yes (⟨⟨⟨?_⟩⟩⟩)
  have h1 := H.pi [2, 0, 1] 3
  simp only [pl, nth, drL] at h1
  refine Cl.b (yq_from hi hn h1) ?_
  rintro _ w ⟨bf, rfl, H⟩
  refine ⟨_, rfl, ?_⟩
  replace H := H.pi [0, 2, 3, 1] 4
  simp only [pl, nth, drL] at H
  refine Mn.new (fun b => .slice (some ⟨b, 0, none⟩) 1 1) #[.slice (some ⟨bf, 0, none⟩) n n] 101 (by kernel_rfl) H fun b16 w H => ?_
  refine SL.appS H.up2 (.tmp 12) (.tmp 16) 102 (.slice none 0 0) 24 (by rfl) (by kernel_rfl) (by kernel_rfl) (by rfl) (by decide) (by rfl) (some ⟨b16, 0, none⟩) 1 1 [.slice (some ⟨bf, 0, none⟩) n n] (by rfl) (H.rdRow 0 rfl (by rfl) (by decide)) (by rfl) (by omega) (by decide) (by decide) fun g1 c1 w H => ?_
  refine ⟨IW.i i ?_⟩
  have q := H.pi [2, 3, 0, 4] 5
  simp only [pl, nth, drL] at q
  replace q := RowsB.snoc (M := (fun a b => frmM M n a n b)) (bs := cs) (by rw [hcl]) q
  replace q := q.dn1
  rw [← tcells_snoc] at q
  exact ⟨(i + 1, cs ++ [bf], (.slice (some ⟨g1, 0, none⟩) (i + 1) c1)), ⟨rfl, rfl, trivial⟩, ⟨⟨by omega, by rw [List.length_append, hcl]; rfl⟩, q⟩, (show n - (i + 1) < n - i by omega)⟩
 have hob : n = i := by omega
 obtain rfl := hob
 have hob := RMP.iff.1 H.up2
 obtain ⟨tv, bs, hbl, H⟩ := hob
 have hob := SL.slcForm H.up1
 obtain ⟨ta, tc, rfl⟩ := hob
 refine ⟨BB.nd ?_⟩
 refine Cn.no (⟨H.st0 (cs' := #[.slice ra n rc]) rfl rfl rfl fun w H => ?_⟩)
 refine ret0 rfl ?_
 exact ⟨rfl, RMP.iff.2 ⟨.slice ra n rc, cs, hcl, H.pi [0, 3, 4] 5⟩⟩
theorem RMP.same {w : World} {F : List Piece} {p n : Nat} {M R : Nat → Nat → Bool} (he : ∀ a b, a < n → b < n → M a b = R a b) (H : SL w (RMP p n M :: F)) : SL w (RMP p n R :: F) := by
 obtain ⟨tv, bs, hbl, H⟩ := RMP.iff.1 H
 subst hbl
 exact RMP.iff.2 ⟨tv, bs, rfl, (RowsB.same he H.up2).dn2⟩
theorem frm_ah {l : List Ev} (h : RtL l) {a b : Nat} (ha : a < l.length) : frmM (relE (allE l)) l.length a l.length b = ahF l a b := by
 rw [Bool.eq_iff_iff, ah_iff h]
 exact frmM_iff (fun a b hr => (rel_lt h hr).1) (fun a b hr => (rel_lt h hr).2.1) (by omega)
theorem yq_of {w : World} {F : List Piece} {A : Piece} {lb lo lc : Nat} {l : List Ev} (hA : EvA A lb lo l) (hlc : l.length ≤ lc) (hR : RtL l) (hll : l.length ≤ 60) (hal : (allE l).length ≤ 100000000) (H : SL w (A :: F)) : Calls Tryz.prog 22 #[.slice (some ⟨lb, lo, none⟩) l.length lc] w fun o w' => ∃ p, o = .returned (.agg #[.slice (some ⟨lb, lo, none⟩) l.length lc, .pointer (some ⟨p, 0, none⟩)]) ∧ SL w' (RMP p l.length (ahF l) :: A :: F) := by
 refine calls_d (args := [_]) Tryz.func22 rfl ?_
 refine ⟨Nw.as #[.slice none 0 0, .pointer none] 44 rfl H fun b2 w H => ?_⟩
 refine ⟨Cl.b (yq_new (n := l.length) (by omega) H) ?_⟩
 rintro _ w ⟨p, rfl, H⟩
 refine ⟨_, rfl, ?_⟩
 refine ⟨?_⟩
 have h1 := H.pi [2, 0, 1] 3
 simp only [pl, nth, drL] at h1
 have K := f_all24 (lc := lc) hA hR (by omega) h1
 rw [← all_ref hR] at K
 refine Cl.b K ?_
 rintro _ w ⟨ya, yc, rfl, H⟩
 refine ⟨_, rfl, ?_⟩
 replace H := H.pi [0, 2, 3, 1] 4
 simp only [pl, nth, drL] at H
 refine ⟨den.loop (ι := Nat) [(6, 6), (16, 26)] (by kernel_rfl) (fun j => [(16, .int .i64 ↑j)]) (fun j w => j ≤ (allE l).length ∧ SL w (RMP p l.length (relE ((allE l).take j)) :: Slc 36 3 (.slice ya ((allE l).length) yc) ((allE l).length) ((allE l).flatMap Edg.cells) :: A :: row b2 #[.slice none 0 0, .pointer none] 44 :: F)) (fun j => (allE l).length - j) 0 ⟨rfl, trivial⟩ ⟨Nat.zero_le _, (H.pi [1, 0, 3, 2] 4)⟩ ?_⟩
 rintro j s w ⟨hj0, H⟩
 have hob := Nat.lt_or_ge j (allE l).length
 rcases hob with hj | hj
 ·have hob : ∃ e, (allE l)[j]? = some e := ⟨_, get_of hj⟩
  obtain ⟨e, hez⟩ := hob
  have hob := SL.slcAddr H.up1 (by omega)
  obtain ⟨yb, rfl⟩ := hob
  have hob := (mem_all hR).1 (List.mem_of_getElem? hez)
  obtain ⟨ez1, ez2, _⟩ := hob
  refine ⟨BB.yd ?_⟩
  refine Cn.yes (⟨⟨Ix.at0 j 3 (by kernel_rfl) (rfl) (hj) ?_⟩⟩)
  refine H.ldS 1 rfl (v := .int .i64 ↑e.src) ((edg_at hez 0 (by decide)).trans rfl) (H.ldS 1 rfl (v := .int .i64 ↑e.dst) ((edg_at hez 1 (by decide)).trans rfl) (H.ldS 1 rfl (v := .int .i64 ↑e.rule) ((edg_at hez 2 (by decide)).trans rfl) (Nw.as #[.int .i64 0, .int .i64 0, .int .i64 0] 36 rfl H fun b6 w H => ?_)))
  refine H.st0 (cs' := #[.int .i64 ↑e.src, .int .i64 0, .int .i64 0]) rfl rfl rfl fun w H => ?_
  refine H.st0 (cs' := #[.int .i64 ↑e.src, .int .i64 ↑e.dst, .int .i64 0]) rfl rfl rfl fun w H => ?_
  refine H.st0 (cs' := #[.int .i64 ↑e.src, .int .i64 ↑e.dst, .int .i64 ↑e.rule]) rfl rfl rfl fun w H => ?_
  refine ⟨H.ldi 0 rfl (v := .int .i64 ↑e.src) rfl ?_⟩
  refine H.ldi 0 rfl (v := .int .i64 ↑e.dst) rfl ?_
  have h1 := H.pi [1, 0, 2, 3, 4] 5
  simp only [pl, nth, drL] at h1
  refine Cl.s (yq_set (i := e.src) (k := e.dst) (by omega) (by omega) (by omega) h1) fun w H => ?_
  replace H := H.pi [1, 0, 2, 3, 4] 5
  simp only [pl, nth, drL] at H
  refine ⟨IW.i j ?_⟩
  have q := RMP.same (R := relE ((allE l).take (j + 1))) (fun a b _ _ => rel_step hez) (H.pi [1, 2, 3, 4] 5)
  exact ⟨j + 1, ⟨rfl, trivial⟩, ⟨(by omega : j + 1 ≤ (allE l).length), q⟩, (show (allE l).length - (j + 1) < (allE l).length - j by omega)⟩
 have hob : j = (allE l).length := by omega
 obtain rfl := hob
 rw [List.take_length] at H
 refine ⟨BB.nd ?_⟩
 refine Cn.no (⟨?_⟩)
 have h1 := H
 refine Cl.s (yq_close (by omega) h1) fun w H => ?_
 refine ⟨Mn.pure (.agg #[.slice (some ⟨lb, lo, none⟩) l.length lc, .pointer (some ⟨p, 0, none⟩)]) (by kernel_rfl) ?_⟩
 refine H.st3 (cs' := #[.slice (some ⟨lb, lo, none⟩) l.length lc, .pointer none]) rfl rfl rfl fun w H => ?_
 refine H.st3 (cs' := #[.slice (some ⟨lb, lo, none⟩) l.length lc, .pointer (some ⟨p, 0, none⟩)]) rfl rfl rfl fun w H => ?_
 refine retC H 3 rfl rfl (by rfl) (by kernel_rfl) (by kernel_rfl) ?_
 have q := H.pi [0, 2] 4
 simp only [pl, nth, drL] at q
 exact ⟨p, rfl, RMP.same (fun a b ha _ => frm_ah hR ha) q⟩
theorem yq_of_nil {w : World} {F : List Piece} {la : Option Addr} {lc : Nat} (H : SL w F) : Calls Tryz.prog 22 #[.slice la 0 lc] w fun o w' => ∃ p, o = .returned (.agg #[.slice la 0 lc, .pointer (some ⟨p, 0, none⟩)]) ∧ SL w' (RMP p 0 (fun a b => frmM (fun _ _ => false) 0 a 0 b) :: F) := by
 refine calls_d (args := [_]) Tryz.func22 rfl ?_
 refine ⟨Nw.as #[.slice none 0 0, .pointer none] 44 rfl H fun b2 w H => ?_⟩
 refine ⟨Cl.b (yq_new (n := 0) (by omega) H) ?_⟩
 rintro _ w ⟨p, rfl, H⟩
 refine ⟨_, rfl, ?_⟩
 refine ⟨Cl.b (f_all24_nil H) ?_⟩
 rintro _ w ⟨ya, yc, rfl, H⟩
 refine ⟨_, rfl, ?_⟩
 refine ⟨den.loop (ι := Nat) [(6, 6), (16, 26)] (by kernel_rfl) (fun j => [(16, .int .i64 ↑j)]) (fun j w => j ≤ 0 ∧ SL w (RMP p 0 (fun _ _ => false) :: Slc 36 3 (.slice ya 0 yc) 0 ([]) :: row b2 #[.slice none 0 0, .pointer none] 44 :: F)) (fun j => 0 - j) 0 ⟨rfl, trivial⟩ ⟨Nat.zero_le _, (H.pi [1, 0, 2] 3)⟩ ?_⟩
 rintro j s w ⟨hj0, H⟩
 have hob : j = 0 := by omega
 obtain rfl := hob
 refine ⟨BB.no rfl ?_⟩
 refine Cn.no (⟨?_⟩)
 have h1 := H
 refine Cl.s (yq_close (by omega) h1) fun w H => ?_
 refine ⟨Mn.pure (.agg #[.slice la 0 lc, .pointer (some ⟨p, 0, none⟩)]) (by kernel_rfl) ?_⟩
 refine H.st2 (cs' := #[.slice la 0 lc, .pointer none]) rfl rfl rfl fun w H => ?_
 refine H.st2 (cs' := #[.slice la 0 lc, .pointer (some ⟨p, 0, none⟩)]) rfl rfl rfl fun w H => ?_
 refine retC H 2 rfl rfl (by rfl) (by kernel_rfl) (by kernel_rfl) ?_
 exact ⟨p, rfl, H.pi [0] 3⟩
def wrX (b9 b11 : Nat) : List ProgX := [⟨[hop 1 1 0, hop 8 0 0], some ⟨b9, 0, none⟩, 2⟩, ⟨[hop 8 0 0], some ⟨b11, 0, none⟩, 1⟩]
def wrS : ScrM := ⟨9, 9, [[⟨1, 1, 0, [], false⟩, ⟨8, 0, 0, [], false⟩], [⟨8, 0, 0, [], false⟩]], [0, 0, 1], []⟩
def wrE : List Ev := [⟨1, 0, -1, -1, 1, 1, false, false⟩, ⟨10, 0, -1, -1, 0, -1, false, false⟩, ⟨10, 1, -1, -1, 0, -1, false, false⟩]
theorem wr_ver : verL wrS (runL wrS 4) = 4 := by kernel_rfl
theorem wr_tr : (runL wrS 4).tr = wrE := by kernel_rfl
section
variable {b9 b11 b12 b13 : Nat}
theorem wr_draws : Reader (all [row b12 #[.slice (some ⟨b9, 0, none⟩) 2 2, .slice (some ⟨b11, 0, none⟩) 1 1] 65, row b9 #[.int .i64 1, .int .i64 1, .int .i64 0, .slice none 0 0, .bool false, .int .i64 8, .int .i64 0, .int .i64 0, .slice none 0 0, .bool false] 64, row b11 #[.int .i64 8, .int .i64 0, .int .i64 0, .slice none 0 0, .bool false] 64, row b13 #[.int .i64 0, .int .i64 0, .int .i64 1] 3]) 1 none ([] : List Int).length (ints []) := fun _ _ _ => rd_none
theorem wr_plan : Reader (all [row b12 #[.slice (some ⟨b9, 0, none⟩) 2 2, .slice (some ⟨b11, 0, none⟩) 1 1] 65, row b9 #[.int .i64 1, .int .i64 1, .int .i64 0, .slice none 0 0, .bool false, .int .i64 8, .int .i64 0, .int .i64 0, .slice none 0 0, .bool false] 64, row b11 #[.int .i64 8, .int .i64 0, .int .i64 0, .slice none 0 0, .bool false] 64, row b13 #[.int .i64 0, .int .i64 0, .int .i64 1] 3]) 1 (some ⟨b13, 0, none⟩) ([0, 0, 1] : List Int).length (ints [0, 0, 1]) := by
 intro S w h
 obtain ⟨T, _, hT⟩ := SLs.at 3 h rfl
 refine ⟨rfl, by decide, fun _ => ⟨b13, 0, rfl, fun i u hu => row_on hT (by rw [Nat.zero_add]; simpa [ints] using hu)⟩⟩
theorem wr_scr : ScrA (all [row b12 #[.slice (some ⟨b9, 0, none⟩) 2 2, .slice (some ⟨b11, 0, none⟩) 1 1] 65, row b9 #[.int .i64 1, .int .i64 1, .int .i64 0, .slice none 0 0, .bool false, .int .i64 8, .int .i64 0, .int .i64 0, .slice none 0 0, .bool false] 64, row b11 #[.int .i64 8, .int .i64 0, .int .i64 0, .slice none 0 0, .bool false] 64, row b13 #[.int .i64 0, .int .i64 0, .int .i64 1] 3]) b12 0 (wrX b9 b11) where
 prog := by
  intro S w h k p hk
  obtain ⟨T, _, hT⟩ := SLs.at 0 h rfl
  match k, hk with
  | 0, hk => injection hk with hk; subst hk; exact row_on hT rfl
  | 1, hk => injection hk with hk; subst hk; exact row_on hT rfl
 some_ := by
  intro k p hk _
  match k, hk with
  | 0, hk => injection hk with hk; subst hk; exact ⟨_, _, rfl⟩
  | 1, hk => injection hk with hk; subst hk; exact ⟨_, _, rfl⟩
 op := by
  intro S w h k p hk b2 o2 hpa j o hj i v hv
  match k, hk with
  | 0, hk =>
   obtain ⟨T, _, hT⟩ := SLs.at 1 h rfl
   injection hk with hk; subst hk
   injection hpa with hpa
   injection hpa with e1 e2
   subst e1 e2
   match j, hj with
   | 0, hj => injection hj with hj; subst hj; match i, hv with | 0, hv | 1, hv | 2, hv | 3, hv | 4, hv => exact row_on hT hv
   | 1, hj => injection hj with hj; subst hj; match i, hv with | 0, hv | 1, hv | 2, hv | 3, hv | 4, hv => exact row_on hT hv
  | 1, hk =>
   obtain ⟨T, _, hT⟩ := SLs.at 2 h rfl
   injection hk with hk; subst hk
   injection hpa with hpa
   injection hpa with e1 e2
   subst e1 e2
   match j, hj with
   | 0, hj => injection hj with hj; subst hj; match i, hv with | 0, hv | 1, hv | 2, hv | 3, hv | 4, hv => exact row_on hT hv
 cap := by
  intro k p hk
  match k, hk with
  | 0, hk => injection hk with hk; subst hk; exact Nat.le_refl 2
  | 1, hk => injection hk with hk; subst hk; exact Nat.le_refl 1
 case := by
  intro k p hk j o hj
  match k, hk with
  | 0, hk =>
   injection hk with hk; subst hk
   match j, hj with
   | 0, hj => injection hj with hj; subst hj; exact ⟨fun _ _ _ => rd_none, Nat.le_refl 0⟩
   | 1, hj => injection hj with hj; subst hj; exact ⟨fun _ _ _ => rd_none, Nat.le_refl 0⟩
  | 1, hk =>
   injection hk with hk; subst hk
   match j, hj with
   | 0, hj => injection hj with hj; subst hj; exact ⟨fun _ _ _ => rd_none, Nat.le_refl 0⟩
end
theorem wr_run {b9 b11 b12 b13 : Nat} {w : World} {F : List Piece} (H : SL w (row b12 #[.slice (some ⟨b9, 0, none⟩) 2 2, .slice (some ⟨b11, 0, none⟩) 1 1] 65 :: row b9 #[.int .i64 1, .int .i64 1, .int .i64 0, .slice none 0 0, .bool false, .int .i64 8, .int .i64 0, .int .i64 0, .slice none 0 0, .bool false] 64 :: row b11 #[.int .i64 8, .int .i64 0, .int .i64 0, .slice none 0 0, .bool false] 64 :: row b13 #[.int .i64 0, .int .i64 0, .int .i64 1] 3 :: F)) : Calls Tryz.prog 35 #[.agg #[.int .i64 9, .int .i64 9, .slice (some ⟨b12, 0, none⟩) 2 2, .slice (some ⟨b13, 0, none⟩) 3 3, .slice none 0 0]] w fun o w' => ∃ tb kc, o = .returned (.agg #[.slice (some ⟨tb, 0, none⟩) 3 kc, .int .i64 4]) ∧ SL w' (Slc 53 8 (.slice (some ⟨tb, 0, none⟩) 3 kc) 3 (wrE.flatMap Ev.cells) :: F) := by
 have h2 : SL w ((all [row b12 #[.slice (some ⟨b9, 0, none⟩) 2 2, .slice (some ⟨b11, 0, none⟩) 1 1] 65, row b9 #[.int .i64 1, .int .i64 1, .int .i64 0, .slice none 0 0, .bool false, .int .i64 8, .int .i64 0, .int .i64 0, .slice none 0 0, .bool false] 64, row b11 #[.int .i64 8, .int .i64 0, .int .i64 0, .slice none 0 0, .bool false] 64, row b13 #[.int .i64 0, .int .i64 0, .int .i64 1] 3]) :: F) := SL.all.2 H
 have hrun := r_run13 (t := 9) (m := 9) (X := wrX b9 b11) (plz := [0, 0, 1]) (dr := []) (pc := 2) (lc := 3) (dc := 0) (fun _ => ⟨b12, 0, rfl, wr_scr⟩) wr_plan wr_draws (show checkE wrS = 0 by decide) h2
 refine Calls.mono hrun ?_
 rintro o w' ⟨ka, kc, rfl, H'⟩
 have ev : verL ⟨9, 9, progsM (wrX b9 b11), [0, 0, 1], []⟩ (runL ⟨9, 9, progsM (wrX b9 b11), [0, 0, 1], []⟩ (([0, 0, 1] : List Int).length + 1)) = 4 := wr_ver
 have et : (runL ⟨9, 9, progsM (wrX b9 b11), [0, 0, 1], []⟩ (([0, 0, 1] : List Int).length + 1)).tr = wrE := wr_tr
 rw [et] at H'
 rw [et, ev]
 obtain ⟨tb, rfl⟩ := SL.slcAddr H' (by decide)
 exact ⟨tb, kc, rfl, H'.pi [0] 2⟩
theorem wr_right : rightF wrE = true := by kernel_rfl
theorem wr_first : frsF wrE 0 = some 2 := by kernel_rfl
theorem wr_ah0 : ahF wrE 0 2 = true := by kernel_rfl
theorem wr_ah1 : ahF wrE 1 2 = false := by kernel_rfl
set_option maxHeartbeats 2000000 in
theorem l_write {w : World} {F : List Piece} {O : Piece} (hG : SpansA O) (H : SL w (O :: F)) : Calls Tryz.prog 20 #[] w fun o w' => o = .returned (.bool true) ∧ SL w' (O :: F) := by
 refine calls_d (args := []) Tryz.func20 rfl ?_
 refine ⟨?_⟩
 refine ⟨?_⟩
 refine Mn.pure (.agg #[.int .i64 1, .int .i64 1, .int .i64 0, .slice none 0 0, .bool false]) (by kernel_rfl) ?_
 refine Mn.pure (.agg #[.int .i64 8, .int .i64 0, .int .i64 0, .slice none 0 0, .bool false]) (by kernel_rfl) ?_
 refine Mn.new (fun b => .slice (some ⟨b, 0, none⟩) 2 2) #[.int .i64 1, .int .i64 1, .int .i64 0, .slice none 0 0, .bool false, .int .i64 8, .int .i64 0, .int .i64 0, .slice none 0 0, .bool false] 64 (by kernel_rfl) H fun b9 w H => ?_
 refine Mn.pure (.agg #[.int .i64 8, .int .i64 0, .int .i64 0, .slice none 0 0, .bool false]) (by kernel_rfl) ?_
 refine Mn.new (fun b => .slice (some ⟨b, 0, none⟩) 1 1) #[.int .i64 8, .int .i64 0, .int .i64 0, .slice none 0 0, .bool false] 64 (by kernel_rfl) H fun b11 w H => ?_
 refine Mn.new (fun b => .slice (some ⟨b, 0, none⟩) 2 2) #[.slice (some ⟨b9, 0, none⟩) 2 2, .slice (some ⟨b11, 0, none⟩) 1 1] 65 (by kernel_rfl) H fun b12 w H => ?_
 refine Mn.new (fun b => .slice (some ⟨b, 0, none⟩) 3 3) #[.int .i64 0, .int .i64 0, .int .i64 1] 3 (by kernel_rfl) H fun b13 w H => ?_
 refine Mn.pure (.agg #[.int .i64 9, .int .i64 9, .slice (some ⟨b12, 0, none⟩) 2 2, .slice (some ⟨b13, 0, none⟩) 3 3, .slice none 0 0]) (by kernel_rfl) ?_
 have h1 := H.pi [1, 3, 2, 0, 4] 5
 simp only [pl, nth, drL] at h1
 refine Cl.b (wr_run h1) ?_
 rintro _ w ⟨tb, kc, rfl, H⟩
 refine ⟨_, rfl, ?_⟩
 have hkc : 3 ≤ kc := SL.slcCapE H
 refine ⟨?_⟩
 have h1 := H
 have K := x_first (cell := 0) (lc := kc) (l := wrE) (EvA.fst5 (O := O) (EvA.slc (te := 53) (b := tb) (c := kc) (l := wrE))) hkc (SpansA.snd5 hG) (by decide) (by decide) (by decide) wr_right ((SL.all (L := [Slc 53 8 (.slice (some ⟨tb, 0, none⟩) 3 kc) 3 (wrE.flatMap Ev.cells), O])).2 h1)
 rw [wr_first] at K
 refine Cl.s K fun w H => ?_
 replace H := (SL.all (L := [Slc 53 8 (.slice (some ⟨tb, 0, none⟩) 3 kc) 3 (wrE.flatMap Ev.cells), O])).1 H
 simp only [List.cons_append, List.nil_append] at H
 refine ⟨?_⟩
 have h1 := H
 have K := x_ahead (lc := kc) (l := wrE) (EvA.fst5 (O := O) (EvA.slc (te := 53) (b := tb) (c := kc) (l := wrE))) hkc (SpansA.snd5 hG) (by decide) (by decide) wr_right ((SL.all (L := [Slc 53 8 (.slice (some ⟨tb, 0, none⟩) 3 kc) 3 (wrE.flatMap Ev.cells), O])).2 h1)
 refine Cl.b K ?_
 rintro _ w ⟨pm, rfl, H⟩
 refine ⟨_, rfl, ?_⟩
 replace H := (SL.all (L := [Slc 53 8 (.slice (some ⟨tb, 0, none⟩) 3 kc) 3 (wrE.flatMap Ev.cells), O])).1 H.up1
 simp only [List.cons_append, List.nil_append] at H
 refine ⟨?_⟩
 refine BB.yes rfl (BB.yes rfl (BB.yes rfl ?_))
 have h1 := H.pi [2, 0, 1] 3
 simp only [pl, nth, drL] at h1
 have K := m_has (i := 0) (k := 2) (by decide) (by decide) (by decide) h1
 rw [wr_ah0] at K
 refine Cl.s K fun w H => ?_
 replace H := H.pi [1, 2, 0] 3
 simp only [pl, nth, drL] at H
 refine BB.yes rfl ?_
 have h1 := H.pi [2, 0, 1] 3
 simp only [pl, nth, drL] at h1
 have K := m_has (i := 1) (k := 2) (by decide) (by decide) (by decide) h1
 rw [wr_ah1] at K
 refine Cl.s K fun w H => ?_
 replace H := H.pi [1, 2, 0] 3
 simp only [pl, nth, drL] at H
 refine BB.no rfl (BB.yes rfl (ret1 (.bool true) rfl (by rfl) ?_))
 exact ⟨rfl, H.pi [1] 3⟩
end Go.Proofs.YtoamjodmidbmbaaGreatDoor
namespace Go.Proofs.YtoamjodmidbmbaaGreatDoor
open Go.ChangeShapes Go.WideShapes Go.ChangeAt Go.RowKit
abbrev Kx (α : Type) := World → α → List Value → Prop
structure Opens {α : Type} (t : TypeId) (K : Kx α) : Prop where
 out : ∀ {H : Type} {enc : TypeId × Value → H} {w : World} {base : Nat} {sp : Nat → Bool} {held : Bool} {fuel : Nat} {cs : List Value} {x : DataW H × List MemPlace},
  DataW.trod enc Tryz.prog w base sp held fuel t cs = some x → ∃ v, K w v cs
def kInt : Kx Int := fun _ n cs => cs = [.int .i64 n] ∧ (Lit.int .i64 n).wf = true
def kBool : Kx Bool := fun _ b cs => cs = [.bool b]
def kSeq {α β : Type} (a : Kx α) (b : Kx β) : Kx (α × β) := fun w x cs => ∃ c d, cs = c ++ d ∧ a w x.1 c ∧ b w x.2 d
def kMap {α β : Type} (f : α → β) (a : Kx α) : Kx β := fun w y cs => ∃ x, y = f x ∧ a w x cs
def kSlice {α : Type} (sz : Nat) (K : Kx α) : Kx (List α) := fun w xs cs =>
 ∃ a cap, cs = [.slice a xs.length cap] ∧ xs.length ≤ cap ∧ cap ≤ maxLen ∧
  (0 < xs.length → ∃ b off, a = some ⟨b, off, none⟩ ∧ ∀ i (h : i < xs.length), ∃ c, c.length = sz ∧ K w xs[i] c ∧ ∀ j u, c[j]? = some u → w.cell? ⟨b, off + i * sz + j, none⟩ = some u)
theorem opens_int {t : TypeId} (ht : Tryz.prog.underlying t = some (.int .i64)) : Opens t kInt := by
 refine ⟨?_⟩
 intro H enc w base sp held fuel cs x h
 obtain ⟨n, hc, _, hw⟩ := DataW.trod_int ht h
 exact ⟨n, hc, hw⟩
theorem opens_bool {t : TypeId} (ht : Tryz.prog.underlying t = some .bool) : Opens t kBool := by
 refine ⟨?_⟩
 intro H enc w base sp held fuel cs x h
 obtain ⟨n, hc, _⟩ := DataW.trod_bool ht h
 exact ⟨n, hc⟩
theorem Opens.map {α β : Type} {t : TypeId} {K : Kx α} (h : Opens t K) (f : α → β) : Opens t (kMap f K) := by
 refine ⟨?_⟩
 intro H enc w base sp held fuel cs x hx
 obtain ⟨v, hv⟩ := h.out hx
 exact ⟨f v, v, rfl, hv⟩
theorem Opens.imp {α β : Type} {t : TypeId} {K : Kx α} {K' : Kx β} (h : Opens t K) (f : α → β) (hf : ∀ w v cs, K w v cs → K' w (f v) cs) : Opens t K' := by
 refine ⟨?_⟩
 intro H enc w base sp held fuel cs x hx
 obtain ⟨v, hv⟩ := h.out hx
 exact ⟨f v, hf _ _ _ hv⟩
theorem opens_slice {α : Type} {t e : TypeId} {sz : Nat} {K : Kx α} (ht : Tryz.prog.underlying t = some (.slice e)) (hC : Tryz.prog.cellsOf e = sz) (hs : 0 < sz) (hK : Opens e K) : Opens t (kSlice sz K) := by
 refine ⟨?_⟩
 intro H enc w base sp held fuel cs x h
 rcases Go.Deep.open_slice ht h with ⟨rfl, _⟩ | ⟨a, len, cap, m, n, D, Pl, rfl, hb, hl, hm, hmm, _, hi⟩
 ·exact ⟨[], none, 0, rfl, Nat.zero_le _, Nat.zero_le _, fun h => absurd h (Nat.lt_irrefl 0)⟩
 ·rw [hC] at hi
  have hlm : len ≤ m := by rw [hmm]; split <;> omega
  have key : ∀ i, i < len → ∃ v c, c.length = sz ∧ K w v c ∧ ∀ j, j < sz → w.cell? ((a.add (i * sz)).add j) = c[j]? := fun i hil => by
   obtain ⟨cs', h1, h2⟩ := hi i (by omega)
   obtain ⟨v, hv⟩ := hK.out h2
   obtain ⟨_, hcl, hat⟩ := World.cells?_some h1
   exact ⟨v, cs', hcl, hv, hat⟩
  have key2 : ∀ n, n ≤ len → ∃ xs : List α, xs.length = n ∧ ∀ i (h : i < xs.length), ∃ c, c.length = sz ∧ K w xs[i] c ∧ ∀ j, j < sz → w.cell? ((a.add (i * sz)).add j) = c[j]? := by
   intro n
   induction n with
   | zero => exact fun _ => ⟨[], rfl, fun i h => absurd h (Nat.not_lt_zero i)⟩
   | succ n ih =>
    intro hn
    obtain ⟨xs, hxl, hxs⟩ := ih (by omega)
    obtain ⟨v, hv⟩ := key n (by omega)
    refine ⟨xs ++ [v], by simp [hxl], fun i h => ?_⟩
    by_cases hi : i < xs.length
    ·rw [List.getElem_append_left hi]
     exact hxs i hi
    ·have hin : i = n := by simp at h; omega
     subst hin
     rw [List.getElem_append_right (by omega)]
     simpa using hv
  obtain ⟨xs, hxl, hxs⟩ := key2 len (Nat.le_refl _)
  subst hxl
  refine ⟨xs, some a, cap, rfl, hl, hm, fun h0 => ?_⟩
  obtain ⟨b, off, spot⟩ := a
  have hspot : spot = none := by
   obtain ⟨c, hcl, _, hat⟩ := hxs 0 h0
   have h1 := hat 0 hs
   have h2 : ((⟨b, off, spot⟩ : Addr).add (0 * sz)).add 0 = ⟨b, off, spot⟩ := by simp [Addr.add]
   rw [h2, List.getElem?_eq_getElem (by omega)] at h1
   unfold World.cell? at h1
   split at h1
   ·cases spot with
    | none => rfl
    | some z => simp at h1
   ·cases h1
  subst hspot
  refine ⟨b, off, rfl, fun i h => ?_⟩
  obtain ⟨c, hcl, hk, hat⟩ := hxs i h
  refine ⟨c, hcl, hk, fun j u hu => ?_⟩
  have hj : j < sz := by
   rcases Nat.lt_or_ge j sz with hj | hj
   ·exact hj
   ·rw [List.getElem?_eq_none (by omega)] at hu
    cases hu
  have h1 := hat j hj
  rw [hu] at h1
  have h2 : ∀ x y : Nat, (⟨b, x, none⟩ : Addr).add y = ⟨b, x + y, none⟩ := fun x y => by
   unfold Addr.add
   split
   ·rename_i hz
    subst hz
    rfl
   ·rfl
  rw [h2, h2] at h1
  exact h1
structure Parts {α : Type} (fs : List Field) (off : Nat) (sz : Nat) (K : Kx α) : Prop where
 out : ∀ {H : Type} {enc : TypeId × Value → H} {w : World} {base : Nat} {sp : Nat → Bool} {held : Bool} {fuel : Nat} {cs : List Value}, cs.length = sz →
  (∀ f ∈ fs, ∃ y, DataW.trod enc Tryz.prog w base sp held fuel f.type ((cs.drop (f.offset - off)).take (Tryz.prog.cellsOf f.type)) = some y) → ∃ v, K w v cs
theorem parts_one {α : Type} {f : Field} {off sz : Nat} {K : Kx α} (ho : f.offset = off) (hc : Tryz.prog.cellsOf f.type = sz) (hK : Opens f.type K) : Parts [f] off sz K := by
 refine ⟨?_⟩
 intro H enc w base sp held fuel cs hl h
 obtain ⟨y, hy⟩ := h f (List.mem_singleton.2 rfl)
 rw [ho, Nat.sub_self, List.drop_zero, hc, ← hl, List.take_length] at hy
 exact hK.out hy
theorem parts_cons {α β : Type} {f : Field} {fs : List Field} {off sz m : Nat} {K : Kx α} {K' : Kx β} (ho : f.offset = off) (hc : Tryz.prog.cellsOf f.type = sz) (hK : Opens f.type K)
  (hoff : ∀ g ∈ fs, off + sz ≤ g.offset) (hP : Parts fs (off + sz) m K') : Parts (f :: fs) off (sz + m) (kSeq K K') := by
 refine ⟨?_⟩
 intro H enc w base sp held fuel cs hl h
 obtain ⟨y, hy⟩ := h f List.mem_cons_self
 rw [ho, Nat.sub_self, List.drop_zero, hc] at hy
 obtain ⟨v, hv⟩ := hK.out hy
 obtain ⟨v', hv'⟩ := hP.out (cs := cs.drop sz) (by rw [List.length_drop]; omega) (fun g hg => by
  obtain ⟨y, hy⟩ := h g (List.mem_cons_of_mem _ hg)
  refine ⟨y, ?_⟩
  rw [List.drop_drop]
  rw [show sz + (g.offset - (off + sz)) = g.offset - off by have := hoff g hg; omega]
  exact hy)
 exact ⟨(v, v'), cs.take sz, cs.drop sz, (List.take_append_drop sz cs).symm, hv, hv'⟩
theorem opens_struct {α : Type} {t : TypeId} {fs : List Field} {sz : Nat} {K : Kx α} (ht : Tryz.prog.underlying t = some (.struct fs.toArray)) (hC : Tryz.prog.cellsOf t = sz) (hP : Parts fs 0 sz K) : Opens t K := by
 refine ⟨?_⟩
 intro H enc w base sp held fuel cs x h
 obtain ⟨xs, n, _, _, hl, hxl, hf⟩ := DataW.trod_struct ht h
 refine hP.out (H := H) (enc := enc) (w := w) (base := base) (sp := sp) (held := held) (fuel := n) (cs := cs) (hl.trans hC) (fun f hm => ?_)
 obtain ⟨i, hi, rfl⟩ := List.getElem_of_mem hm
 have h1 := hf i fs[i] (by simp [hi])
 rw [Nat.sub_zero]
 rw [List.getElem?_eq_getElem (by rw [hxl]; simpa using hi)] at h1
 exact ⟨_, h1⟩
theorem rd_of_slice {α : Type} {sz : Nat} {f : α → List Value} {w : World} {xs : List α} {cs : List Value} (hf : ∀ x, (f x).length = sz) (h : kSlice sz (fun _ x c => c = f x) w xs cs) :
  ∃ a cap, cs = [.slice a xs.length cap] ∧ xs.length ≤ cap ∧ Rd w sz a xs.length (xs.flatMap f) := by
 obtain ⟨a, cap, rfl, hc, hm, hx⟩ := h
 refine ⟨a, cap, rfl, hc, flat_length f sz hf xs, Nat.le_trans hc hm, fun h0 => ?_⟩
 obtain ⟨b, off, ha, hi⟩ := hx h0
 refine ⟨b, off, ha, fun i u hu => ?_⟩
 have hlt : i < xs.length * sz := by
  rcases Nat.lt_or_ge i (xs.length * sz) with hj | hj
  ·exact hj
  ·rw [List.getElem?_eq_none (by rw [flat_length f sz hf]; exact hj)] at hu
   cases hu
 have hs : 0 < sz := by
  rcases Nat.eq_zero_or_pos sz with h | h
  ·rw [h, Nat.mul_zero] at hlt
   omega
  ·exact h
 have hg : i / sz < xs.length := (Nat.div_lt_iff_lt_mul hs).2 hlt
 have hj : i % sz < sz := Nat.mod_lt _ hs
 have e : i / sz * sz + i % sz = i := by rw [Nat.mul_comm]; exact Nat.div_add_mod i sz
 obtain ⟨c, _, rfl, hc⟩ := hi (i / sz) hg
 have h1 := flat_get f sz hf xs (i / sz) (i % sz) hj hg
 rw [e, hu] at h1
 have h2 := hc (i % sz) u h1.symm
 rw [Nat.add_assoc, e] at h2
 exact h2
theorem kSlice.imp {α : Type} {sz : Nat} {K K' : Kx α} {w : World} {xs : List α} {cs : List Value} (h : kSlice sz K w xs cs) (hk : ∀ x c, K w x c → K' w x c) : kSlice sz K' w xs cs := by
 obtain ⟨a, cap, h1, h2, h2', h3⟩ := h
 refine ⟨a, cap, h1, h2, h2', fun h0 => ?_⟩
 obtain ⟨b, off, ha, hi⟩ := h3 h0
 refine ⟨b, off, ha, fun i h => ?_⟩
 obtain ⟨c, x, y, z⟩ := hi i h
 exact ⟨c, x, hk _ _ y, z⟩
theorem open_arg {α : Type} {t : TypeId} {K : Kx α} (hK : Opens t K) {H : Type} {enc : TypeId × Value → H} {w : World} {base : Nat} {sp : Nat → Bool} {held : Bool} {v : Value} {d : DataW H} {p : List MemPlace}
  (h : DataW.Trod enc Tryz.prog w base sp held t v d p) : ∃ x, K w x v.cells.toList := by
 obtain ⟨fuel, hf⟩ := h
 exact hK.out hf
def kEv : Kx Ev := fun _ x c => c = x.cells
theorem opens_ev : Opens 53 kEv :=
 (opens_struct (fs := [_, _, _, _, _, _, _, _]) (sz := 8) Tryz.underlying53 (by kernel_rfl)
  (parts_cons (sz := 1) (m := 7) rfl (by kernel_rfl) (opens_int Tryz.underlying3) (by decide)
  (parts_cons (sz := 1) (m := 6) rfl (by kernel_rfl) (opens_int Tryz.underlying3) (by decide)
  (parts_cons (sz := 1) (m := 5) rfl (by kernel_rfl) (opens_int Tryz.underlying3) (by decide)
  (parts_cons (sz := 1) (m := 4) rfl (by kernel_rfl) (opens_int Tryz.underlying3) (by decide)
  (parts_cons (sz := 1) (m := 3) rfl (by kernel_rfl) (opens_int Tryz.underlying3) (by decide)
  (parts_cons (sz := 1) (m := 2) rfl (by kernel_rfl) (opens_int Tryz.underlying3) (by decide)
  (parts_cons (sz := 1) (m := 1) rfl (by kernel_rfl) (opens_bool Tryz.underlying4) (by decide)
  (parts_one (sz := 1) rfl (by kernel_rfl) (opens_bool Tryz.underlying4)))))))))).imp
  (fun v => ⟨v.1, v.2.1, v.2.2.1, v.2.2.2.1, v.2.2.2.2.1, v.2.2.2.2.2.1, v.2.2.2.2.2.2.1, v.2.2.2.2.2.2.2⟩) (fun w v cs h => by
   obtain ⟨v1, v2, v3, v4, v5, v6, v7, v8⟩ := v
   obtain ⟨_, _, rfl, ⟨rfl, _⟩, _, _, rfl, ⟨rfl, _⟩, _, _, rfl, ⟨rfl, _⟩, _, _, rfl, ⟨rfl, _⟩, _, _, rfl, ⟨rfl, _⟩, _, _, rfl, ⟨rfl, _⟩, _, _, rfl, rfl, rfl⟩ := h
   rfl)
structure EvIn (w : World) (v : Value) (l : List Ev) : Prop where
 out : ∃ a cap, v = .slice a l.length cap ∧ l.length ≤ cap ∧ Rd w 8 a l.length (l.flatMap Ev.cells)
set_option maxRecDepth 100000 in
theorem open_sl_api_Event {r : Reach} {b0 : Nat} {H : Type} {enc : TypeId × Value → H} {w : World} {base : Nat} {sp : Nat → Bool} {held : Bool} {v : Value} {d : DataW H} {p : List MemPlace}
  (hv : Value.okWide Tryz.prog w r b0 22 v) (h : DataW.Trod enc Tryz.prog w base sp held 22 v d p) : ∃ l, EvIn w v l := by
 obtain ⟨l, hl⟩ := open_arg (opens_slice (sz := 8) (K := kEv) Tryz.underlying22 (by kernel_rfl) (by decide) opens_ev) h
 obtain ⟨a, cap, he, hc, hr⟩ := rd_of_slice (f := Ev.cells) Ev.cells_len hl
 obtain ⟨a', n', c', rfl⟩ := okWide_slice Tryz.underlying22 hv
 simp only [Value.cells] at he
 exact ⟨l, a, cap, List.head_eq_of_cons_eq he, hc, hr⟩
section
variable {l : List Ev} {L : List Edg} {x y : Edg} {i n : Nat} {p : Edg → Bool}
end
end Go.Proofs.YtoamjodmidbmbaaGreatDoor
