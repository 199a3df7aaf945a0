/- Texts of the proof, several in one file: EdgeX. -/
import Derived.Test.YtoamjodmidbmbaaGreatDoorE10
import Derived.Shelf.SlSortCmp.NoneTotal
import Derived.Shelf.SlSortCmp.WholeK
import Derived.Shelf.SlicesG.Cmp
import Derived.Ground.SlsfProg
import Derived.Ground.SlgcProg
set_option linter.unusedVariables false
set_option linter.unusedSimpArgs false
namespace Go.Proofs
open Go.Shelf Go.RowKit Go.Lib Go.Sort
def Tryz.sortEdge_ren : Go.Shelf.Ren := ⟨fun | 6 => 39 | 15 => 70 | 14 => 69 | 28 => 122 | 29 => 123 | 20 => 114 | 21 => 115 | 22 => 116 | 23 => 117 | 24 => 118 | 25 => 119 | 26 => 120 | 27 => 121 | 46 => 153 | 47 => 154 | 48 => 155 | 49 => 156 | 50 => 157 | 57 => 169 | n => n, fun | 22 => 24 | 24 => 70 | 25 => 80 | 3 => 3 | 39 => 134 | 0 => 0 | 53 => 182 | 55 => 99 | 4 => 4 | 46 => 176 | 45 => 175 | 50 => 125 | 5 => 5 | 9 => 9 | 66 => 213 | 70 => 217 | 76 => 242 | 77 => 123 | n => n, fun | n => n⟩
theorem Tryz.sortEdge : Go.Proofs.SlLaysF0.n6 Tryz.prog Tryz.sortEdge_ren := {
 mixed := by kernel_rfl
 f6 := ⟨Tryz.f39.name, by decide, Tryz.func39.trans (congrArg some (by kernel_rfl))⟩
 f14 := ⟨Tryz.f69.name, by decide, Tryz.func69.trans (congrArg some (by kernel_rfl))⟩
 f15 := Tryz.func70.trans (congrArg some (by kernel_rfl))
 f20 := ⟨Tryz.f114.name, by decide, Tryz.func114.trans (congrArg some (by kernel_rfl))⟩
 f21 := ⟨Tryz.f115.name, by decide, Tryz.func115.trans (congrArg some (by kernel_rfl))⟩
 f22 := ⟨Tryz.f116.name, by decide, Tryz.func116.trans (congrArg some (by kernel_rfl))⟩
 f23 := ⟨Tryz.f117.name, by decide, Tryz.func117.trans (congrArg some (by kernel_rfl))⟩
 f24 := ⟨Tryz.f118.name, by decide, Tryz.func118.trans (congrArg some (by kernel_rfl))⟩
 f25 := ⟨Tryz.f119.name, by decide, Tryz.func119.trans (congrArg some (by kernel_rfl))⟩
 f26 := ⟨Tryz.f120.name, by decide, Tryz.func120.trans (congrArg some (by kernel_rfl))⟩
 f27 := ⟨Tryz.f121.name, by decide, Tryz.func121.trans (congrArg some (by kernel_rfl))⟩
 f28 := Tryz.func122.trans (congrArg some (by kernel_rfl))
 f29 := Tryz.func123.trans (congrArg some (by kernel_rfl))
 f46 := ⟨Tryz.f153.name, by decide, Tryz.func153.trans (congrArg some (by kernel_rfl))⟩
 f47 := Tryz.func154.trans (congrArg some (by kernel_rfl))
 f48 := Tryz.func155.trans (congrArg some (by kernel_rfl))
 f49 := ⟨Tryz.f156.name, by decide, Tryz.func156.trans (congrArg some (by kernel_rfl))⟩
 f50 := ⟨Tryz.f157.name, by decide, Tryz.func157.trans (congrArg some (by kernel_rfl))⟩
 f57 := ⟨Tryz.f169.name, by decide, Tryz.func169.trans (congrArg some (by kernel_rfl))⟩
 t0 := Tryz.underlying0
 a0 := Tryz.isAgg0
 z0 := Tryz.sizeOf0
 v0 := Tryz.zeroValue0
 t3 := Tryz.underlying3
 a3 := Tryz.isAgg3
 z3 := Tryz.sizeOf3
 v3 := Tryz.zeroValue3
 t4 := Tryz.underlying4
 a4 := Tryz.isAgg4
 z4 := Tryz.sizeOf4
 v4 := Tryz.zeroValue4
 t5 := Tryz.underlying5
 a5 := Tryz.isAgg5
 z5 := Tryz.sizeOf5
 v5 := Tryz.zeroValue5
 t9 := Tryz.underlying9
 a9 := Tryz.isAgg9
 z9 := Tryz.sizeOf9
 v9 := Tryz.zeroValue9
 t22 := Tryz.underlying24
 a22 := Tryz.isAgg24
 z22 := Tryz.sizeOf24
 v22 := Tryz.zeroValue24
 t25 := Tryz.underlying80
 a25 := Tryz.isAgg80
 z25 := Tryz.sizeOf80
 v25 := Tryz.zeroValue80
 t39 := Tryz.underlying134
 a39 := Tryz.isAgg134
 z39 := Tryz.sizeOf134
 v39 := Tryz.zeroValue134
 t45 := Tryz.underlying175
 a45 := Tryz.isAgg175
 z45 := Tryz.sizeOf175
 v45 := Tryz.zeroValue175
 t46 := Tryz.underlying176
 a46 := Tryz.isAgg176
 z46 := Tryz.sizeOf176
 v46 := Tryz.zeroValue176
 t50 := Tryz.underlying125
 a50 := Tryz.isAgg125
 z50 := Tryz.sizeOf125
 v50 := Tryz.zeroValue125
 t53 := Tryz.underlying182
 a53 := Tryz.isAgg182
 z53 := Tryz.sizeOf182
 v53 := Tryz.zeroValue182
 t55 := Tryz.underlying99
 a55 := Tryz.isAgg99
 z55 := Tryz.sizeOf99
 v55 := Tryz.zeroValue99
 t66 := Tryz.underlying213
 a66 := Tryz.isAgg213
 z66 := Tryz.sizeOf213
 v66 := Tryz.zeroValue213
 t70 := Tryz.underlying217
 a70 := Tryz.isAgg217
 z70 := Tryz.sizeOf217
 v70 := Tryz.zeroValue217
 t76 := Tryz.underlying242
 a76 := Tryz.isAgg242
 z76 := Tryz.sizeOf242
 v76 := Tryz.zeroValue242
 t77 := Tryz.underlying123
 a77 := Tryz.isAgg123
 z77 := Tryz.sizeOf123
 v77 := Tryz.zeroValue123 }
def Tryz.cmpEdge_ren : Go.Shelf.Ren := ⟨fun | 5 => 72 | 7 => 124 | n => n, fun | 22 => 3 | 3 => 3 | 4 => 4 | n => n, fun | n => n⟩
theorem Tryz.cmpEdge : Go.Proofs.SlLaysC2.n5 Tryz.prog Tryz.cmpEdge_ren := {
 mixed := by kernel_rfl
 f5 := ⟨Tryz.f72.name, by decide, Tryz.func72.trans (congrArg some (by kernel_rfl))⟩
 f7 := ⟨Tryz.f124.name, by decide, Tryz.func124.trans (congrArg some (by kernel_rfl))⟩
 t3 := Tryz.underlying3
 a3 := Tryz.isAgg3
 z3 := Tryz.sizeOf3
 v3 := Tryz.zeroValue3
 t4 := Tryz.underlying4
 a4 := Tryz.isAgg4
 z4 := Tryz.sizeOf4
 v4 := Tryz.zeroValue4
 t22 := Tryz.underlying3
 a22 := Tryz.isAgg3
 z22 := Tryz.sizeOf3
 v22 := Tryz.zeroValue3 }
end Go.Proofs
namespace Go.Proofs.YtoamjodmidbmbaaGreatDoor
open Go.RowKit Go.Shelf Go.Sort
set_option maxRecDepth 100000
def Grown (w0 w : World) : Prop := ∃ q os, w = grow (w0.drewN q) os
theorem Grown.refl (w : World) : Grown w w := ⟨0, #[], by rw [grow_empty]; rfl⟩
section
variable {w0 w : World} {L : List Piece} {P : Program}
theorem Grown.alloc (G : Grown w0 w) (o : Obj) : Grown w0 (w.alloc o) := by
 obtain ⟨q, os, rfl⟩ := G
 exact ⟨q, os ++ #[o], by rw [alloc_eq_grow, grow_grow]⟩
theorem Grown.drew (G : Grown w0 w) : Grown w0 w.drew := by
 obtain ⟨q, os, rfl⟩ := G
 exact ⟨q + 1, os, rfl⟩
theorem Nw.asG {K : Nat → World → Prop} {ob : Obj} (cs : Array Value) (t : Nat) (h : ob = .cells cs t (0, 0)) (H : SL w L) (G : Grown w0 w) (k : ∀ b w', SL w' (row b cs t :: L) → Grown w0 w' → K b w') : Nw w ob K := by
 subst h
 exact ⟨k _ _ (H.alloc _) (G.alloc _)⟩
theorem Mn.newG {σ : Fr} {op : Oper} {K : Value → World → Prop} (f : Nat → Value) (cs : Array Value) (t : Nat) (h : (execOp (ev σ) op).run P w = .ok (.value (f w.heap.size)) (w.alloc (.cells cs t (0, 0)))) (H : SL w L) (G : Grown w0 w) (k : ∀ b w', SL w' (row b cs t :: L) → Grown w0 w' → K (f b) w') : Mn P σ op w K :=
 Mn.by h (k _ _ (H.alloc _) (G.alloc _))
theorem Cl.eq {f : FuncId} {args : Array Value} {v : Value} {K : Value → World → Prop} (he : okEnter P f = true) (h : Calls P f args w fun e w' => e = .returned v ∧ w' = w) (k : K v w) : Cl P f args w K :=
 ⟨⟨he, h.mono fun e w' q => ⟨v, q.1, by rw [q.2]; exact k⟩⟩⟩
theorem SL.start' (w : World) : SL w [] := ((SL.start w).tl : SL w [])
end
def Edg.cells (e : Edg) : List Value := [.int .i64 (e.src : Int), .int .i64 (e.dst : Int), .int .i64 (e.rule : Int)]
def orI (x y z : Int) : Int := if x ≠ 0 then x else if y ≠ 0 then y else z
theorem e_or {w0 : World} {F : List Piece} {b : Nat} {x y z : Int} (H : SL w0 (row b #[.int .i64 x, .int .i64 y, .int .i64 z] 3 :: F)) : Calls Tryz.prog 71 #[.slice (some ⟨b, 0, none⟩) 3 3] w0 fun o w' => o = .returned (.int .i64 (orI x y z)) ∧ w' = w0 := by
 refine calls_den (args := [_]) Tryz.func71 rfl (Nat.le_of_ble_eq_true (by kernel_rfl)) (by kernel_rfl) ?_
 refine ⟨⟨⟨⟨den.loop (ι := Nat) [(2, 2), (5, 5), (8, 16)] (by kernel_rfl) (fun i => [(8, .int .i64 ↑i)]) (fun i w => (i ≤ 3 ∧ w = w0 ∧ (1 ≤ i → x = 0) ∧ (2 ≤ i → y = 0) ∧ (3 ≤ i → z = 0)) ∧ SL w (row b #[.int .i64 x, .int .i64 y, .int .i64 z] 3 :: F)) (fun i => 3 - i) 0 ⟨rfl, trivial⟩ ⟨⟨by omega, rfl, by omega, by omega, by omega⟩, H⟩ ?_⟩⟩⟩⟩
 rintro i s w ⟨hd, H⟩
 obtain ⟨hi, hw, h0, h1, h2⟩ := hd
 subst hw
 have hob := (show i = 0 ∨ i = 1 ∨ i = 2 ∨ i = 3 by omega)
 rcases hob with rfl | rfl | rfl | rfl
 ·refine ⟨BB.yes rfl ?_⟩
  refine Cn.yes (⟨⟨Ix.at0 0 1 (by kernel_rfl) rfl (by decide) ?_⟩⟩)
  refine H.ldi 0 rfl (v := .int .i64 x) rfl (⟨BB.vr fun q1 e1 => ?_⟩)
  cases q1
  ·have h1 := bne_eq_false_iff_eq.1 e1
   refine Cn.no (⟨IW.by (m := 1) rfl ?_⟩)
   exact ⟨1, ⟨rfl, trivial⟩, ⟨⟨by omega, rfl, by omega, by omega, by omega⟩, H⟩, (show 3 - 1 < 3 - 0 by omega)⟩
  have h1 := bne_iff_ne.1 e1
  refine Cn.yes (⟨ret1 (.int .i64 x) rfl (by rfl) ?_⟩)
  rw [show orI x y z = x by unfold orI; (repeat' split) <;> omega]
  exact ⟨rfl, rfl⟩
 ·refine ⟨BB.yes rfl ?_⟩
  refine Cn.yes (⟨⟨Ix.at0 1 1 (by kernel_rfl) rfl (by decide) ?_⟩⟩)
  refine H.ldi 0 rfl (v := .int .i64 y) rfl (⟨BB.vr fun q2 e2 => ?_⟩)
  cases q2
  ·have h2 := bne_eq_false_iff_eq.1 e2
   refine Cn.no (⟨IW.by (m := 2) rfl ?_⟩)
   exact ⟨2, ⟨rfl, trivial⟩, ⟨⟨by omega, rfl, by omega, by omega, by omega⟩, H⟩, (show 3 - 2 < 3 - 1 by omega)⟩
  have h2 := bne_iff_ne.1 e2
  refine Cn.yes (⟨ret1 (.int .i64 y) rfl (by rfl) ?_⟩)
  rw [show orI x y z = y by unfold orI; (repeat' split) <;> omega]
  exact ⟨rfl, rfl⟩
 ·refine ⟨BB.yes rfl ?_⟩
  refine Cn.yes (⟨⟨Ix.at0 2 1 (by kernel_rfl) rfl (by decide) ?_⟩⟩)
  refine H.ldi 0 rfl (v := .int .i64 z) rfl (⟨BB.vr fun q3 e3 => ?_⟩)
  cases q3
  ·have h3 := bne_eq_false_iff_eq.1 e3
   refine Cn.no (⟨IW.by (m := 3) rfl ?_⟩)
   exact ⟨3, ⟨rfl, trivial⟩, ⟨⟨by omega, rfl, by omega, by omega, by omega⟩, H⟩, (show 3 - 3 < 3 - 2 by omega)⟩
  have h3 := bne_iff_ne.1 e3
  refine Cn.yes (⟨ret1 (.int .i64 z) rfl (by rfl) ?_⟩)
  rw [show orI x y z = z by unfold orI; (repeat' split) <;> omega]
  exact ⟨rfl, rfl⟩
 refine ⟨BB.no rfl ?_⟩
 refine Cn.no (⟨ret1 (.int .i64 0) rfl (by rfl) ?_⟩)
 rw [show orI x y z = 0 by unfold orI; (repeat' split) <;> omega]
 exact ⟨rfl, rfl⟩
set_option maxHeartbeats 1000000 in
theorem e_compare {w0 : World} {x0 x1 x2 y0 y1 y2 : Int} : Calls Tryz.prog 40 #[.agg #[.int .i64 x0, .int .i64 x1, .int .i64 x2], .agg #[.int .i64 y0, .int .i64 y1, .int .i64 y2]] w0 fun o w' => o = .returned (.int .i64 (orI (Go.Lib.compareInt x1 y1) (Go.Lib.compareInt x0 y0) (Go.Lib.compareInt x2 y2))) ∧ Grown w0 w' := by
 have H : SL w0 [] := SL.start' w0
 have G : Grown w0 w0 := Grown.refl w0
 refine calls_den (args := [_, _]) Tryz.func40 rfl (Nat.le_of_ble_eq_true (by kernel_rfl)) (by kernel_rfl) ?_
 refine ⟨Nw.asG #[.int .i64 x0, .int .i64 x1, .int .i64 x2] 70 rfl H G fun b2 w H G => ?_⟩
 refine Nw.asG #[.int .i64 y0, .int .i64 y1, .int .i64 y2] 70 rfl H G fun b3 w H G => ?_
 refine ⟨Drw.oft (.calm 0 (.calm 1 (.calm 2 (.calm 3 (.calm 5 (.calm 6 (.calm 7 (.calm 8 (.calm 10 (.calm 11 (.calm 12 (.calm 13 (.act 4 false (.act 9 false (.act 14 true (.act 15 true (.act 16 true (.pure 17 .nil)))))))))))))))))) (by kernel_rfl) mixed (fun w => SL w _) H.drew ?_⟩
 replace H := H.drew
 replace G := G.drew
 refine LdC.i 1 rfl (v := .int .i64 x1) rfl (LdC.i 0 rfl (v := .int .i64 y1) rfl (LdC.i 1 rfl (v := .int .i64 x0) rfl (LdC.i 0 rfl (v := .int .i64 y0) rfl (LdC.i 1 rfl (v := .int .i64 x2) rfl (LdC.i 0 rfl (v := .int .i64 y2) rfl ?_)))))
 refine Cl.eq (by kernel_rfl) (AnyG.cmp_Compare_int Tryz.cmpEdge x1 y1 _) ?_
 refine ⟨.inr (H.pick [0, 1] 2 (by decide)), ?_⟩
 refine Cl.eq (by kernel_rfl) (AnyG.cmp_Compare_int Tryz.cmpEdge x0 y0 _) ?_
 refine ⟨.inr (H.pick [0, 1] 2 (by decide)), ?_⟩
 refine Cl.eq (by kernel_rfl) (AnyG.cmp_Compare_int Tryz.cmpEdge x2 y2 _) ?_
 refine ⟨.inl rfl, ?_⟩
 refine Mn.newG (fun b => .slice (some ⟨b, 0, none⟩) 3 3) #[.int .i64 (Go.Lib.compareInt x1 y1), .int .i64 (Go.Lib.compareInt x0 y0), .int .i64 (Go.Lib.compareInt x2 y2)] 3 (by kernel_rfl) H G fun b20 w H G => ?_
 refine ⟨.inl rfl, ?_⟩
 refine Cl.eq (by kernel_rfl) (e_or H) ?_
 refine ⟨.inl rfl, ?_⟩
 refine ret1 (.int .i64 (orI (Go.Lib.compareInt x1 y1) (Go.Lib.compareInt x0 y0) (Go.Lib.compareInt x2 y2))) rfl (by rfl) ?_
 exact ⟨rfl, G⟩
def cfE (x y : Edg) : Int := orI (Go.Lib.compareInt x.dst y.dst) (Go.Lib.compareInt x.src y.src) (Go.Lib.compareInt x.rule y.rule)
theorem cfE_lt (x y : Edg) : ltOf cfE x y = ltE x y := by
 obtain ⟨a, b, c⟩ := x
 obtain ⟨d, e, f⟩ := y
 unfold ltOf cfE ltE orI Go.Lib.compareInt
 congr 1
 refine propext ?_
 dsimp only
 (repeat' split) <;> omega
theorem cfE_swo : SWO (ltOf cfE) where
 irrefl x := by rw [cfE_lt]; exact ltE_irrefl x
 trans x y z h1 h2 := by rw [cfE_lt] at *; exact ltE_trans h1 h2
 ntrans x y z h1 h2 := by
  rw [cfE_lt] at *
  unfold ltE at *
  simp only [decide_eq_false_iff_not] at *
  omega
instance : Inhabited Edg := ⟨⟨0, 0, 0⟩⟩
theorem cmpLaysE (blk off size : Nat) (w : World) : CmpLays Tryz.prog 40 #[] Edg.cells 3 cfE blk off size w := fun m os dk hs x y => e_compare
theorem flatK_list (M : List Edg) : (flatK Edg.cells 3 M.toArray).toList = M.flatMap Edg.cells := by
 apply List.ext_getElem?
 intro i
 have hlen : (M.flatMap Edg.cells).length = M.length * 3 := by
  induction M with
  | nil => rfl
  | cons x M ih => rw [List.flatMap_cons, List.length_append, ih]; show 3 + _ = _; rw [List.length_cons]; omega
 by_cases hi : i < M.length * 3
 ·have hs : (flatK Edg.cells 3 M.toArray).size = M.length * 3 := by simp
  rw [Array.getElem?_toList, Array.getElem?_eq_getElem (by rw [hs]; exact hi), List.getElem?_eq_getElem (by rw [hlen]; exact hi)]
  have h1 := get_flatK Edg.cells 3 M.toArray i (by simpa using hi)
  rw [getElem!_pos _ i (by rw [hs]; exact hi)] at h1
  rw [h1]
  have hd : i / 3 < M.length := by omega
  rw [getElem!_pos M.toArray (i / 3) (by simpa using hd)]
  have key : ∀ (M : List Edg) (j r : Nat) (hj : j < M.length) (hr : r < 3), (M.flatMap Edg.cells)[j * 3 + r]? = (M[j].cells)[r]? := by
   intro M
   induction M with
   | nil => intro j r hj; cases hj
   | cons x M ih =>
    intro j r hj hr
    rw [List.flatMap_cons]
    cases j with
    | zero => rw [List.getElem?_append_left (by show 0 * 3 + r < 3; omega), Nat.zero_mul, Nat.zero_add]; rfl
    | succ j =>
     rw [List.getElem?_append_right (by show 3 ≤ _; omega)]
     rw [show (j + 1) * 3 + r - (Edg.cells x).length = j * 3 + r by show (j + 1) * 3 + r - 3 = _; omega]
     exact ih j r (by simpa using hj) hr
  have h2 := key M (i / 3) (i % 3) hd (Nat.mod_lt _ (by decide))
  rw [show i / 3 * 3 + i % 3 = i by omega, List.getElem?_eq_getElem (by rw [hlen]; exact hi)] at h2
  have h3 : (M.toArray[i / 3]'(by simpa using hd)) = M[i / 3] := by simp
  rw [h3]
  have h4 : i % 3 < (M[i / 3].cells).length := by show i % 3 < 3; omega
  rw [List.getElem?_eq_getElem h4] at h2
  rw [getElem!_pos (M[i / 3].cells) (i % 3) h4]
  exact congrArg some (Option.some.inj h2).symm
 ·have e1 : (flatK Edg.cells 3 M.toArray).toList[i]? = none := List.getElem?_eq_none (by rw [Array.length_toList, size_flatK, List.size_toArray]; omega)
  have e2 : (M.flatMap Edg.cells)[i]? = none := List.getElem?_eq_none (by rw [hlen]; omega)
  rw [e1, e2]
theorem take_putK (cur : Array Value) (fl : Array Value) (h : fl.size ≤ cur.size) : (putCells id 0 fl cur).toList.take fl.size = fl.toList := by
 apply List.ext_getElem?
 intro j
 by_cases hj : j < fl.size
 ·rw [List.getElem?_take_of_lt hj, Array.getElem?_toList, Array.getElem?_toList]
  simp [putCells, hj, show j < cur.size by omega]
 ·rw [List.getElem?_take_eq_none (by omega), List.getElem?_eq_none (by simp; omega)]
/-- slices.SortFunc over edges. -/
theorem e_sort {w : World} {F : List Piece} {L : List Edg} {v : Value} (hl : L.length < 4611686018427387904) (H : SL w (Slc 70 3 v L.length (L.flatMap Edg.cells) :: F)) :
  Calls Tryz.prog 39 #[v, .func (.func 40) #[] #[]] w fun o w' => o = .returned (.tuple #[]) ∧ SL w' (Slc 70 3 v L.length ((sortE L).flatMap Edg.cells) :: F) := by
 obtain ⟨S, ⟨⟨hlen, hown⟩, hblk⟩, hlt, hcall⟩ := H.call
 rcases hown with ⟨rfl, h0⟩ | ⟨g, cap, cur, rfl, hbase, hb, hnc, hcm, hsz, htk⟩
 ·have hL : L = [] := List.eq_nil_of_length_eq_zero h0
  subst hL
  have hcon := AnyF.slices_SortFunc_none Tryz.sortEdge none 0 (.func (.func 40) #[] #[]) w
  change Calls Tryz.prog 39 _ _ _ at hcon
  refine hcon.mono ?_
  rintro o w' ⟨rfl, rfl⟩
  exact ⟨rfl, H⟩
 ·have eg : ∀ args w, (callFunc 40 args).run Tryz.prog w = .ok (.enter 40 args) w := enters_of Tryz.func40 (by kernel_rfl) rfl
  have hg : g < w.heap.size := (Array.getElem?_eq_some_iff.1 hb).1
  have hfl : (flatK Edg.cells 3 L.toArray).toList = L.flatMap Edg.cells := flatK_list L
  have hH : HoldsK Edg.cells 3 w g 0 L.toArray := by
   intro j hj
   have hj' : j < L.length * 3 := by simpa using hj
   refine ⟨?_, by simp [World.frozen?, hb]⟩
   have h1 : (cur.toList.take (L.length * 3))[j]? = (L.flatMap Edg.cells)[j]? := by rw [htk]
   rw [List.getElem?_take_of_lt hj', ← hfl] at h1
   simp only [World.cell?, hb, Nat.zero_add, Option.isSome_none, Bool.false_eq_true, if_false, id]
   rw [← Array.getElem?_toList, h1, Array.getElem?_toList, getElem!_pos _ j hj, Array.getElem?_eq_getElem hj]
  have hcon := AnyQ.slices_SortFunc Tryz.sortEdge 3 (fun w => by kernel_rfl) (fun w => by kernel_rfl) Edg.cells (fun _ => rfl) (fun x v hv => by simp [Edg.cells] at hv; rcases hv with rfl | rfl | rfl <;> rfl) cfE cfE_swo 40 #[] g 0 cap L.toArray w eg (cmpLaysE g 0 _ w) hH hg (by simpa using hl)
  change Calls Tryz.prog 39 _ _ _ at hcon
  rw [List.size_toArray] at hcon
  refine hcon.mono ?_
  rintro o w' ⟨rfl, d, n, os, hp, hs, rfl⟩
  refine ⟨rfl, ?_⟩
  obtain ⟨p1, _, p3⟩ := hp
  have hdl : d.size = L.length := by simpa using p1
  have hperm : d.toList.Perm L := by
   have e1 : (d.extract 0 L.length).toList = d.toList := by rw [← hdl]; simp
   have e2 : (L.toArray.extract 0 L.length).toList = L := by simp
   rw [e1, e2] at p3
   exact p3
  have hsrt : SrtE d.toList := by
   refine List.pairwise_iff_getElem.2 fun i j hi hj hij => ?_
   have hi' : i < d.size := by simpa using hi
   have hj' : j < d.size := by simpa using hj
   have := hs i j (Nat.zero_le _) hij (by omega)
   rw [cfE_lt, getElem!_pos d i hi', getElem!_pos d j hj'] at this
   simpa using this
  have hd : d = (sortE L).toArray := by
   have := srt_eq hsrt (sortE_sorted L) (hperm.trans (sortE_perm L).symm)
   rw [← this]
  have hgrow : w.heap.size ≤ (sortWorldK Edg.cells 3 w g 0 n d os).heap.size := size_sortWorldK_c Edg.cells 3 w g 0 n d os
  have hput : ∀ k, k < w.heap.size → (sortWorldK Edg.cells 3 w g 0 n d os).heap[k]? = if g = k then (w.heap[k]?).map (onCells (putCells id 0 (flatK Edg.cells 3 d))) else w.heap[k]? := fun k hk => by
   unfold sortWorldK
   rw [heap_grow_old _ _ (by rw [size_putRowK]; exact hk)]
   show (w.heap.modify g _)[k]? = _
   rw [Array.getElem?_modify]
  have hfr : Frm S w (sortWorldK Edg.cells 3 w g 0 n d os) := ⟨rfl, rfl, rfl, hgrow, fun k hk hS => by
   rw [hput k hk, if_neg]
   rintro rfl
   exact hS (hblk _ rfl)⟩
  have hfs : (flatK Edg.cells 3 d).size = L.length * 3 := by rw [size_flatK, hdl]
  refine hcall _ [_] hfr ⟨_, fun _ h => h, ⟨⟨?_, .inr ⟨g, cap, _, rfl, hbase, (by rw [hput g hg, if_pos rfl, hb]; rfl), hnc, hcm, by simp [putCells, hsz], ?_⟩⟩, fun k hk => .inl (hblk k hk)⟩, trivial⟩
  ·rw [← flatK_list]
   simp [(sortE_perm L).length_eq]
  ·rw [← hfs, take_putK _ _ (by rw [hfs, hsz]; exact Nat.mul_le_mul_right 3 hnc), hd, flatK_list]
end Go.Proofs.YtoamjodmidbmbaaGreatDoor
